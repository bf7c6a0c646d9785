import Derived.Test.YtlgkpdfieaadaaaGreatDoorRPim
set_option linter.all false
open Array renaming getElem?_eq_some_iff->Au
open Classical renaming not_not->El
open Go renaming Addr->Cj,Calls->Al,TypeId->Ck,Value->Ak,World->Aj,bodyPost_ret->Ai,cell_of_row->Bz,heap_alloc_new->Ca,wpAnyH_done->An,wpAnyH_ready->Ap,wp_region_held_drew->Ao
open Go.AllReadyH renaming cons->Aq,nil->Ar
open Go.Builtin renaming zeroCells->Gn
open Go.IntKind renaming i64->Ab,u8->Ac
open Go.Lib renaming hid->Ah,wpList_append_run->As
open Go.Obj renaming cells->Co
open Go.Proofs.Tryz renaming prog->Dp,underlying38->Dl
open Go.Region renaming wanted->Dz
open Go.RowKit.Below renaming heap_alloc->Eh,heap_setCell->Dq,refl->Ag
open Go.Value renaming int->Aa,slice->Ad
open List renaming any_eq_false->Du,any_eq_true->Ew,append_assoc->Bj,append_nil->Ff,cons_append->Er,flatMap_append->Bi,flatMap_cons->Bf,getElem?_cons_succ->Cx,getElem?_cons_zero->Dk,getElem?_toArray->Fv,getElem_cons_succ->Ce,getElem_cons_zero->Cd,getElem_mem->Ay,getElem_toArray->Cf,length_append->Bh,length_cons->Eo,length_map->Bp,map_append->Ez,map_cons->Es,mem_append->Bl,mem_append_left->Gc,mem_cons->Bk,mem_flatMap->Ec,mem_map->Dr,nil_append->Eu,nodup_append->Bq,nodup_cons->Ei,pairwise_cons->Gg,setIfInBounds_toArray->Ci,set_cons_succ->Ch,set_cons_zero->Cg,take_of_length_le->Bg,take_succ_eq_append_getElem->Bc
open Nat renaming le_refl->Am,le_trans->Bt,lt_of_lt_of_le->Br,mul_one->Dc,zero_add->Bu,zero_le->Gm
open Option renaming none->Ae,some->Af
set_option maxHeartbeats 8000000
set_option maxRecDepth 100000
namespace Go.Proofs.YtlgkpdfieaadaaaGreatDoor
open Go.RowKit
variable {g n k:Nat} {l:List Stk} {a b er:Int} {α:Type}
def As1 {w:Aj} {t:Ck} {l:List Cl} (h:w.heap[g]? =Af (Co (Nu l).toArray t (0,0))) (i:Nat) (hi:i<l.length):
  w.cell? ⟨g,i*3,Ae⟩=Af (Aa Ab l[i].x)/\w.cell? ⟨g,i*3+1,Ae⟩=Af (Aa Ab l[i].y)/\w.cell? ⟨g,i*3+2,Ae⟩=Af (Aa Ac l[i].q):=by
 have hr:w.rangeAt g 0 (Nu l):=λj v hj=>by
  rw[Bu,Bz w g j _ t (0,0) h];simpa using hj
 exact As0 hr i hi
def Af6 (id g I X n:Nat) (c:Cl) (A:Option Cj) (u cc:Nat) (is:List Cl) (w:Aj) (hid:id<is.length) (hn:n=is.length)
  (hI:w.heap[I]? =Af (Co (Nu is).toArray 90 (0,0))) (hg:w.heap[g]? =Af (Co #[Ad (Af ⟨I,0,Ae⟩) n n] 146 (0,0)))
  (hX:w.heap[X]? =Af (Co #[Aa Ab c.x,Aa Ab c.y,Aa Ac c.q,Ad A u cc] 92 (0,0))):
  Al Dp 246 #[(id:Int),.pointer (Af ⟨g,0,Ae⟩),.pointer (Af ⟨X,0,Ae⟩)] w (Gz (.bool (decide (is.getD id cl0≠c))) w):=by
 obtain⟨p0,p1,p2⟩:=As1 hI id hid;have e:is.getD id cl0=is[id]:=by simp[List.getD,hid]
 rw[e];obtain⟨⟨x,y,q⟩,hz⟩:=ey (is[id]);rw[hz]at p0 p1 p2⊢;obtain⟨cx,cy,cq⟩:=c;obtain⟨⟨a0,a1,a2,a3⟩,-⟩:=Jh hX;obtain⟨b0,-⟩:=Lx hg;have q1:(id:Int)<(n:Int):=Gv;dsimp only at p0 p1 p2 a0 a1 a2;clear hI hg hX hz e hn hid;by_cases hq:x=cx/\y=cy/\q=cq
 ·obtain⟨rfl,rfl,rfl⟩:=hq;go_in;go_upto_region 1 with fail
  go_quiet (fail)
  go_wp2;go_ret;exact⟨Gy,Ic (Ag _ _) _⟩
 ·have hd:decide ((⟨x,y,q⟩:Cl)≠⟨cx,cy,cq⟩)=true:=by
   rw[decide_eq_true_iff];intro h;injection h with h1 h2 h3;exact hq ⟨h1,h2,h3⟩
  rw[hd]
  have UC:∀(p r:Result Next),(if x=cx then if y=cy then if((q:Nat):Int)=(cq:Int)then p else r else r else r)=r:=λp r=>by
   split
   ·rename_i h1
    split
    ·rename_i h2
     split
     ·rename_i h3;exact absurd ⟨h1,h2,Int.ofNat.inj h3⟩ hq
     ·rfl
    ·rfl
   ·rfl
  clear hq hd;go_in;go_upto_region 1 with fail
  go_quiet (fail)
  go_wp2;go_ret;exact⟨rfl,Ic (Ag _ _) _⟩
def La (h:chkS n l=0):(∀k,k<l.length->Kn n l k=false)/\(Hn l).Nodup/\n<=(Hn l).length:=by
 unfold chkS at h
 split at h
 ·cases h
 ·rename_i h1
  split at h
  ·cases h
  ·rename_i h2
   split at h
   ·cases h
   ·rename_i h3;refine⟨λk hk=>?_,El.1 h2,Gv⟩;have:=Du.1 (Bool.eq_false_iff.2 h1) k (by simpa using hk);exact Bool.eq_false_iff.2 this
def Tz (is:List Cl) (x:Stk):Bool:=x.ls.any λid=>decide (is.getD id cl0≠x.c)
def Vf (x:Stk):Bool:=[0,1,2].any λe=>decide ((Sf x.c e).2≠0)
def Bp7 {cr:List Cr} {root:Mv} {ms:List Mv} {is:List Cl} (h:Ie a b cr root=((ms,is),er)):
  Ov a b cr root l=if er≠0 then er else if chkS (Hh a b) l≠0 then chkS (Hh a b) l else if l.any (Tz is)then 6 else if l.any Vf then 3 else 0:=by
 unfold Ov;rw[h];rfl
def iL {l:List α} {p:α->Bool} (hk:k<l.length) (h:p l[k]=true):l.any p=true:=Ew.2 ⟨_,Ay hk,h⟩
def nB {l:List α} {p:α->Bool} (h:∀k (hk:k<l.length),p l[k]=false):l.any p=false:=by
 rw[Du];intro x hx;obtain⟨k,hk,rfl⟩:=List.mem_iff_getElem.1 hx;rw[h k hk];simp
def Ay0 (c:Cl) (e:Nat):Nh (nbr c.x c.y c.q e)= .tuple #[(Sf c e).1.v,Aa Ab (Sf c e).2]:=by
 unfold Nh Sf Cl.v;have h:=vJ c.x c.y c.q e;simp only;rw[Int.toNat_of_nonneg h.1]
def iG (a b:Int) (pA:Option Cj) (cr:List Cr) (pn pc:Nat) (root:Mv) (A:Option Cj) (l:List Stk) (n cc:Nat) (w:Aj) (hp:Lo a b cr) (oh:pn=cr.length) (fi:Rd w pA 3 pn (crs cr)) (dr:pn<=1000000) (ht:root.t<=255)
  (hn:n=l.length) (h:Ib w A l) (hl:n<=100000) (jd:∀x∈l,x.ls.length<=100000) (xy:∀x∈l,x.c.q<=255) (hQ:Qf w) (hT:Tn w):
  Al Dp 201 #[.agg #[a,b,Ad pA pn pc],.agg #[Aa Ac root.t,Aa Ab root.x,Aa Ab root.y],Ad A n cc] w (Gz (Aa Ab (Ov a b cr root l)) w):=by
 have TJ:=λ(w':Aj) (hb:Below w.heap.size w w')=>Wd a b pA cr pn pc root w' hp oh (fi.below hb) dr ht (hQ.below hb) (hT.below hb);have hCK:=λ(w':Aj) (hb:Below w.heap.size w w')=>gL A l n cc a b w' hn (h.below hb) hl jd xy hp.sheet;have hinv:=Ny (a:=a) (b:=b) (l:=cr) (root:=root);obtain⟨⟨⟨ms,is⟩,er⟩,hF⟩:∃F,Ie a b cr root=F:=⟨_,rfl⟩;rw[Bp7 hF];rw[hF]at TJ hinv;dsimp only at TJ hinv;obtain⟨ck,ni⟩:=ey (chkS (Hh a b) l);have T6:=La (n:=Hh a b) (l:=l);rw[ni]at hCK T6⊢;obtain⟨m,hm⟩:=ey (Hh a b);rw[hm]at T6 hinv;obtain⟨R,hR⟩:=ey ((if er≠0 then er else if ck≠0 then ck else if l.any (Tz is)then 6 else if l.any Vf then 3 else 0));rw[hR];have HR:=Ah hR;have pu:=Ah TJ;have pd:=Ah hCK;have X':=Ah hinv;have HSV:=Ah T6;have HS:=Ah h;have HN:=Ah hn;have xb:=Ah jd;have HQS:=Ah xy;have HQ:=Ah hQ;obtain⟨rt,rx,ry⟩:=root;dsimp only at pu⊢;have H:=((Bx.start w).new #[a,b,Ad pA pn pc] 28 rfl).new #[Aa Ac rt,rx,ry] 30 (N:=w.heap.size+1) Gy;clear hp oh fi dr ht hn h jd xy hQ hT TJ hCK hinv hF ni T6 hm hR;go_in;go_upto_region 1 with fail;generalize (w.alloc _).alloc _=W at H⊢;obtain⟨N,ct⟩:=Tw w.heap.size;rw[<-ct.out]at H⊢;generalize N+1=P at H⊢;obtain⟨⟨a0,a1,a2⟩,-⟩:=Hg (H.b 0);obtain⟨⟨b0,b1,b2⟩,-⟩:=Hg (H.b 1);go_wp2_with fail;refine(pu.out _ H.below).mono ?_;rintro e w2 ⟨hb,ij⟩;have H2:=H.call hb;have gg:=hb.size;clear a0 a1 a2 b0 b1 b2 pu;rcases ij with⟨h0,rfl⟩|⟨rfl,I,rfl,hI,hIb⟩
 ·have HF:Hid (R=er):=Ah (by rw[<-HR.out,Hc h0]);clear hb H;go_upto_region 2 with fail;obtain⟨G,hG⟩:=ey w2.heap.size;have H3:=H2.new #[Ad Ae 0 0] 146 hG;rw[hG];generalize w2.alloc _=w3 at H3⊢;clear hG;go_wp2;go_ret;exact⟨by rw[HF.out];rfl,H3.below⟩
 ·have H2:=H.add hb (by exact hI) hIb;obtain⟨ye,DE,UN,N_⟩:=X'.out rfl;have HR:Hid ((if ck≠0 then ck else if l.any (Tz is)then 6 else if l.any Vf then 3 else 0)=R):=Ah (by have:=HR.out;rw[Ha He]at this;exact this);have GE:=Ah DE;clear hb H gg hI hIb ye DE UN N_ X';go_upto_region 2 with fail;obtain⟨G,hG⟩:=ey w2.heap.size;have H3:=H2.new #[Ad (Af ⟨I,0,Ae⟩) is.length is.length] 146 hG;rw[hG];generalize w2.alloc _=w3 at H3⊢;clear hG H2;obtain⟨⟨a0,a1,a2⟩,-⟩:=Hg (H3.b 0);go_wp2_with fail;refine(pd.out _ H3.below).mono ?_;rintro e w4 ⟨rfl,hb⟩;have H4:=H3.call hb;clear a0 a1 a2 hb H3 pd;by_cases hc:ck=0
  ·subst hc;obtain⟨s1,s2,s3⟩:=HSV.out rfl;have oz:=Ah (λ(j:Nat) (hj:j<l.length)=>kB hj (s1 j hj));have HR:Hid ((if l.any (Tz is)then 6 else if l.any Vf then 3 else 0)=R):=Ah (by have:=HR.out;rw[Ha He]at this;exact this);have GC:Hid (Bx w [(N,#[a,b,Ad pA pn pc],28),(P,#[Aa Ac rt,rx,ry],30),(I,(Nu is).toArray,90),(G,#[Ad (Af ⟨I,0,Ae⟩) is.length is.length],146)] w4):=Ah H4;clear s1 s2 s3 HSV H4;go_wp2
   go_loopw [35] (λi wr=>∃k:Nat,k<=n/\i= Aa Ab k/\Hid (Bx w [(N,#[a,b,Ad pA pn pc],28),(P,#[Aa Ac rt,rx,ry],30),(I,(Nu is).toArray,90),(G,#[Ad (Af ⟨I,0,Ae⟩) is.length is.length],146)] wr)/\Hid (∀j (hj:j<l.length),j<k->Tz is l[j]=false)) (λi _=>n-(intOf i).toNat)
   case atStart=>exact⟨0,Gm _,rfl,GC,Ah λj _ hj=>absurd hj Gv⟩
   obtain⟨k,hk,rfl,HH,HK⟩:=hrel;clear GC;by_cases ac:k<n
   ·have be:k<l.length:=oHx HN.out;obtain⟨bb,o,A',c',rfl,cj,⟨d0,d1,d2,d3⟩,du,hle,jb,ba⟩:=(HS.out.below HH.out.below).get k be;have q1:(k:Int)<(n:Int):=Gv;have dq:=xb.out l[k] (Ay _);have hid:=(oz.out k be).2
    have CK:=Ah (λ(h:Tz is l[k]=false) (j:Nat) (hj:j<l.length) (lu:j<k+1)=>show Tz is l[j]=false by
     by_cases e:j=k
     ·subst e;exact h
     ·exact HK.out j hj Gv)
    have HA:=Ah (λ(h:Tz is l[k]=true)=>iL be h);obtain⟨⟨⟨x,y,q⟩,ids⟩,hr⟩:∃z,l[k]=z:=⟨_,rfl⟩;rw[hr]at d0 d1 d2 d3 du hle ba dq hid CK HA;dsimp only at d0 d1 d2 d3 du hle ba dq hid;obtain⟨C,hC⟩:=ey wr.heap.size;obtain⟨u,hu⟩:=ey ids.length;rw[hu]at d3 du hle ba dq;have H5:=HH.out.new #[x,y,Aa Ac q,Ad A' u c'] 92 hC;have FN:=ba.alloc (.cells #[x,y,Aa Ac q,Ad A' u c'] 92);clear hr du hle jb ba;go_upto_region 10 with fail
    try rw[hC]
    generalize wr.alloc _=W5 at H5 FN⊢;clear d0 d1 d2 d3 hC
    have KS:=Ad3 246 (λ_ _=>rfl) #[.pointer (Af ⟨G,0,Ae⟩),.pointer (Af ⟨C,0,Ae⟩)] (λid=>decide (is.getD id cl0≠⟨x,y,q⟩)) A' ids u c' W5 hu.symm FN Gv (λid w' hi hb=>
     Af6 id G I C is.length ⟨x,y,q⟩ A' u c' is w' (by have:=GE.out;have:=hid id hi;omega) rfl ((H5.call hb).b 2) ((H5.call hb).b 3) ((H5.call hb).b 4))
    have KS:=Ah KS;obtain⟨⟨c0,c1,c2,c3⟩,-⟩:=Jh (H5.b 4);clear FN hid;go_wp2_with fail;refine KS.out.mono ?_;rintro e W6 ⟨rfl,hb⟩;have H6:=H5.call hb;clear KS c0 c1 c2 c3 hb H5;obtain⟨v,hv⟩:=ey ((ids.any λid=>decide (is.getD id cl0≠⟨x,y,q⟩)));have vt:Tz is ⟨⟨x,y,q⟩,ids⟩=v:=hv;rw[vt]at CK HA;rw[hv]
    cases v
    ·have js:=Ah (CK.out rfl);have qj:=Ah (H6.upto 4);clear hv vt CK HA H6;go_wp2;exact⟨⟨k+1,Gv,by go_num,qj,js⟩,by simp[intOf];omega⟩
    ·have HF:Hid (R=6):=Ah (by rw[<-HR.out,Hc (HA.out rfl)]);clear hv vt CK HA;go_wp2;go_ret;exact⟨by rw[HF.out];rfl,H6.below⟩
   ·have q1:¬(k:Int)<(n:Int):=Gv
    have HR:Hid ((if l.any Vf then 3 else 0)=R):=Ah (by
     have h1:=HR.out;rw[nB λj hj=>HK.out j hj (oHx HN.out)]at h1;simpa using h1)
    have GC:=HH;clear HK HH hk ac;go_wp2_with fail;clear q1
    go_loopw [46] (λi wr=>∃k:Nat,k<=n/\i= Aa Ab k/\Hid (Bx w [(N,#[a,b,Ad pA pn pc],28),(P,#[Aa Ac rt,rx,ry],30),(I,(Nu is).toArray,90),(G,#[Ad (Af ⟨I,0,Ae⟩) is.length is.length],146)] wr)/\Hid (∀j (hj:j<l.length),j<k->Vf l[j]=false)) (λi _=>n-(intOf i).toNat)
    case atStart=>exact⟨0,Gm _,rfl,GC,Ah λj _ hj=>absurd hj Gv⟩
    obtain⟨k,hk,rfl,HH,HK⟩:=hrel;clear GC;by_cases ac:k<n
    ·have be:k<l.length:=oHx HN.out;obtain⟨bb,o,A',c',rfl,cj,⟨d0,d1,d2,d3⟩,du,hle,jb,ba⟩:=(HS.out.below HH.out.below).get k be;have q1:(k:Int)<(n:Int):=Gv
     have CK:=Ah (λ(h:Vf l[k]=false) (j:Nat) (hj:j<l.length) (lu:j<k+1)=>show Vf l[j]=false by
      by_cases e:j=k
      ·subst e;exact h
      ·exact HK.out j hj Gv)
     have HA:=Ah (λ(h:Vf l[k]=true)=>iL be h);obtain⟨⟨⟨x,y,q⟩,ids⟩,hr⟩:∃z,l[k]=z:=⟨_,rfl⟩;rw[hr]at d0 d1 d2 d3 CK HA;dsimp only at d0 d1 d2 d3;obtain⟨u,hu⟩:=ey ids.length;rw[hu]at d3;clear hr du hle jb ba hu;go_upto_region 16 with fail;obtain⟨C,hC⟩:=ey wr.heap.size;have H5:=HH.out.new #[x,y,Aa Ac q,Ad A' u c'] 92 hC;rw[hC];generalize wr.alloc _=W5 at H5⊢;have KW:Hid (Bx w [(N,#[a,b,Ad pA pn pc],28),(P,#[Aa Ac rt,rx,ry],30),(I,(Nu is).toArray,90),(G,#[Ad (Af ⟨I,0,Ae⟩) is.length is.length],146),(C,#[x,y,Aa Ac q,Ad A' u c'],92)] W5):=Ah H5;clear d0 d1 d2 d3 hC H5 HH;go_wp2
     go_loopw [50] (λi wr=>∃e:Nat,e<=3/\i= Aa Ac e/\Hid (Bx w [(N,#[a,b,Ad pA pn pc],28),(P,#[Aa Ac rt,rx,ry],30),(I,(Nu is).toArray,90),(G,#[Ad (Af ⟨I,0,Ae⟩) is.length is.length],146),(C,#[x,y,Aa Ac q,Ad A' u c'],92)] wr)/\Hid (∀j,j<e->(Sf ⟨x,y,q⟩ j).2=0)) (λi _=>3-(intOf i).toNat)
     case atStart=>exact⟨0,Gm _,rfl,KW,Ah λj hj=>absurd hj Gv⟩
     obtain⟨e,he,rfl,HH,HE⟩:=hrel;clear KW;by_cases h3:e<3
     ·have q2:(e:Int)<3:=Gv;have q3:(e:Int)<=255:=Gv;obtain⟨⟨c0,c1,c2,c3⟩,-⟩:=Jh (HH.out.b 4);have eh:=Sg x y q e wr Gv Gv (HQ.out.below HH.out.below).qt;rw[Ay0 ⟨x,y,q⟩ e]at eh;have JD:=Ah eh;obtain⟨⟨⟨nx,ny,nq⟩,er⟩,hz⟩:∃z,Sf ⟨x,y,q⟩ e=z:=⟨_,rfl⟩;rw[hz]at JD;have HZ:=Ah hz;clear eh hz;go_wp2_with fail;refine JD.out.mono ?_;rintro en W6 ⟨rfl,hb⟩;have H6:=(HH.out.call hb).other (.cells #[nx,ny,Aa Ac nq] 90);clear JD c0 c1 c2 c3 hb HH;unfold Cl.v;dsimp only;go_upto_region 20 with fail;generalize W6.alloc _=W7 at H6⊢;by_cases h0:er=0
      ·subst h0
       have js:Hid (∀j,j<e+1->(Sf ⟨x,y,q⟩ j).2=0):=Ah λj hj=>by
        by_cases e1:j=e
        ·subst e1;rw[HZ.out]
        ·exact HE.out j Gv
       have qj:=Ah H6;clear H6;go_wp2;exact⟨⟨e+1,Gv,by go_num,qj,js⟩,by simp[intOf];omega⟩
      ·have HF:Hid (R=3):=Ah (by
        rw[<-HR.out,Hc];refine HA.out ?_;unfold Vf;rw[Ew];refine⟨e,?_,by simp only;rw[HZ.out];simpa using h0⟩;have:e=0∨e=1∨e=2:=Gv;simpa using this)
       have q4:(er != 0)=true:=by simpa using h0
       clear h0;go_wp2;go_ret;exact⟨by rw[HF.out];rfl,H6.below⟩
     ·obtain rfl:e=3:=Gv
      have js:=Ah (CK.out (by
       unfold Vf;rw[Du];intro j hj
       have h2:j<3:=by
        have:j=0∨j=1∨j=2:=by simpa using hj
        omega
       simp only;rw[HE.out j h2];simp))
      have qj:=Ah (HH.out.upto 4);clear HH h3;go_wp2;exact⟨⟨k+1,Gv,by go_num,qj,js⟩,by simp[intOf];omega⟩
    ·have q1:¬(k:Int)<(n:Int):=Gv
     have HF:Hid (R=0):=Ah (by
      have h1:=HR.out;rw[nB λj hj=>HK.out j hj (oHx HN.out)]at h1;simpa using h1.symm)
     clear ac hk;go_wp2;go_ret;exact⟨by rw[HF.out];rfl,HH.out.below⟩
  ·have HF:Hid (R=ck):=Ah (by rw[<-HR.out,Hc hc]);have q1:(ck != 0)=true:=by simpa using hc
   clear hc;go_wp2;go_ret;exact⟨by rw[HF.out];rfl,H4.below⟩
def Bt5 (g:Bool) (p:Int) (P:Nat) (w:Aj) (e:Ending) (w':Aj):Prop:=∃w1,e= .returned (Aa Ab p)/\Below w.heap.size w w1/\w'=w1.setCell ⟨P,0,Ae⟩ (.bool (g&&decide (0<=p)))
def lP (id:Nat) (A:Option Cj) (ls:List Nat) (n c Q P:Nat) (g:Bool) (w:Aj) (hn:n=ls.length) (h:Rd w A 1 n (Ih ls)) (hl:n<=1000000)
  (hq:w.heap[Q]? =Af (Co #[Ad A n c] 38 (0,0))) (hp:w.heap[P]? =Af (Co #[.bool g] 4 (0,0))):
  Al Dp 257 #[(id:Int),.pointer (Af ⟨Q,0,Ae⟩),.pointer (Af ⟨P,0,Ae⟩)] w (Bt5 g (Kh ls id) P w):=by
 have DX:=Ah (iZ A ls n c id w hn h hl);obtain⟨b0,-⟩:=Lx hq;obtain⟨r,hr⟩:=ey (Kh ls id);rw[hr]at DX⊢;have LM:=(Au.1 hp).1;have HP:=Ah hp;clear hn h hl hq hr hp;go_in;go_wp2_with fail;refine DX.out.mono ?_;rintro e w1 ⟨rfl,hb⟩;obtain⟨c0,c1⟩:=Lx (kept hb HP.out LM);clear b0 HP DX
 cases g
 ·go_wp2;go_ret;exact⟨w1,rfl,hb,rfl⟩
 ·by_cases h0:0<=r
  ·go_wp2;go_ret;exact⟨w1,rfl,hb,by rw[Ld h0];rfl⟩
  ·go_wp2;go_ret;exact⟨w1,rfl,hb,by rw[Bool.true_and]⟩
def Bf9 (lo:List (Int×Int)) (th:List Int) (g:Bool) (w:Aj) (e:Ending) (w':Aj):Prop:=
 ∃A c B d n m,e= .returned (.tuple #[Ad A n c,Ad B m d,.bool g])/\n=lo.length/\m=th.length/\n<=c/\c<=maxLen/\w'.ownsRow w.heap.size 56 2 (Ad A n c) n (Qg lo)/\w'.ownsRow w.heap.size 3 1 (Ad B m d) m (Ls th)/\Below w.heap.size w w'
def Bv1 (a b:Ak) (w:Aj):(Instr.index 56 (.agg #[a,b]) (Aa Ac 0)).run Dp w= .ok a w:=Gx
def Bv2 (a b:Ak) (w:Aj):(Instr.index 56 (.agg #[a,b]) (Aa Ac 1)).run Dp w= .ok b w:=Gx
def Bg2 (a b:Ak) (side:Nat) (hs:side<=1) (w:Aj):(Instr.index 56 (.agg #[a,b]) (Aa Ac side)).run Dp w= .ok (if side=0 then a else b) w:=by
 have:side=0∨side=1:=Gv;rcases this with rfl|rfl
 ·rw[Hc rfl];exact Bv1 a b w
 ·rw[Ha He];exact Bv2 a b w
def Sm.cells (s:Sm) (vp vl ve:Ak):Array Ak:=#[Aa Ab s.a.x,Aa Ab s.a.y,Aa Ac s.a.q,Aa Ab s.b.x,Aa Ab s.b.y,Aa Ac s.b.q,vp,vl,ve]
def Au5:(Tryz.prog.info? 56).map (λi=>(i.zero,i.size,i.bytes))=Af (Af (.agg #[Aa Ab 0,Aa Ab 0]),2,16):=Gx
def An0 (ls:List Nat) (s:Sm) (side k:Nat) (hk:k<s.ps.length):((Im ls s side).take (k+1))=(Im ls s side).take k++[Kh ls (mJ side s.ps[k])]:=by
 unfold Im;rw[Bc (by simpa using hk)];simp
def Mq (ls:List Nat) (side:Nat) (l:List (Nat×Nat×Nat)):List (Int×Int):=(l.filter λx=>decide (x.1=side)).map λx=>(Kh ls x.2.1,Kh ls x.2.2)
def Pf (ls:List Nat) (s:Sm) (side k:Nat):Bool:=(Im ls s side).all (λh=>decide (0<=h))&&(Mq ls side (s.ls.take k)).all (λx=>decide (0<=x.1)&&decide (0<=x.2))
def uW (ls:List Nat) (side:Nat) (l:List (Nat×Nat×Nat)) (k:Nat) (hk:k<l.length) (h:l[k].1=side):Mq ls side (l.take (k+1))=Mq ls side (l.take k)++[(Kh ls l[k].2.1,Kh ls l[k].2.2)]:=by
 unfold Mq;rw[Bc hk,List.filter_append,Ez];simp[h]
def Ah3 (ls:List Nat) (side:Nat) (l:List (Nat×Nat×Nat)) (k:Nat) (hk:k<l.length) (h:l[k].1≠side):Mq ls side (l.take (k+1))=Mq ls side (l.take k):=by
 unfold Mq;rw[Bc hk,List.filter_append,Ez];simp[h]
def Al8 (s:Sm) (pA lA eA:Option Cj) (np pc nl lc ne BH side:Nat) (A:Option Cj) (ls:List Nat) (n c:Nat) (w:Aj) (hside:side<=1)
  (hn:n=ls.length) (hl:n<=1000000) (h:Rd w A 1 n (Ih ls)) (oc:np=s.ps.length) (hp:Rd w pA 2 np (Pw s.ps)) (dr:np<=1000000) (ky:nl=s.ls.length) (jo:Rd w lA 3 nl (Nl s.ls)) (O8:nl<=1000000):
  Al Dp 208 #[.agg (s.cells (Ad pA np pc) (Ad lA nl lc) (Ad eA ne BH)),Aa Ac side,Ad A n c] w (Bf9 (Te ls s side) (Im ls s side) (Oo ls s side) w):=by
 have dt:=Zz w (λw' hb=>h.below hb);have HP:=Zz w (λw' hb=>hp.below hb);have HL:=Zz w (λw' hb=>jo.below hb);have HN:=Ah hn;have PT:=Ah oc;have qk:=Ah ky;have DX:=Ah (λ(a b:Ak) (w:Aj)=>Bg2 a b side hside w);unfold Sm.cells;have H:=(((Bx.start w).new #[Aa Ab s.a.x,Aa Ab s.a.y,Aa Ac s.a.q,Aa Ab s.b.x,Aa Ab s.b.y,Aa Ac s.b.q,Ad pA np pc,Ad lA nl lc,Ad eA ne BH] 263 rfl).new #[Ad A n c] 38 (N:=w.heap.size+1) Gy).new #[.bool false] 4 (N:=w.heap.size+1+1) Gy;clear hn h oc hp ky jo;go_in;go_upto_region 1 with fail;obtain⟨N,ct⟩:=Tw w.heap.size;rw[<-ct.out]at H⊢;obtain⟨Q,hQ⟩:=ey (N+1);obtain⟨P,hP⟩:=ey (Q+1);rw[hQ,hP]at H⊢;generalize ((w.alloc _).alloc _).alloc _=W at H⊢;have hlP:P<W.heap.size:=H.lt 2 rfl;obtain⟨M,hM⟩:=ez (P+1);have p':w.heap.size<=M:=oHx ct.out;have TK:M<=W.heap.size:=Gv;have LK:N<M/\Q<M/\P<M:=Gv;clear hlP;obtain⟨g0,g1⟩:=Lx (H.b 2);have H1:=H.set 2 0 rfl (.bool true)
 have jt:Hid (∀(X Y Z:Array Ak),∀x∈[(N,X,263),(Q,Y,38),(P,Z,4)],x.1<M):=Ah (by
  intro X Y Z x hx;simp only[Bk,List.not_mem_nil,or_false]at hx;rcases hx with rfl|rfl|rfl
  ·exact LK.1
  ·exact LK.2.1
  ·exact LK.2.2)
 have uz:=Ah p';go_upto_region 3 with fail;have JK:M<=(W.setCell ⟨P,0,Ae⟩ (.bool true)).heap.size:=by simpa using TK
 generalize W.setCell _ _=W1 at H1 JK⊢;have BC:Hid (Bx w [(N,#[Aa Ab s.a.x,Aa Ab s.a.y,Aa Ac s.a.q,Aa Ab s.b.x,Aa Ab s.b.y,Aa Ac s.b.q,Ad pA np pc,Ad lA nl lc,Ad eA ne BH],263),(Q,#[Ad A n c],38),(P,#[.bool true],4)] W1):=Ah H1;clear H1 H TK hM g0 g1 LK p' hQ hP;obtain⟨⟨x1,y1,q1⟩,J_⟩:=ey s.a;obtain⟨⟨x2,y2,q2⟩,EW⟩:=ey s.b;rw[J_,EW]at BC⊢;dsimp only at BC⊢;clear J_ EW;have h2:=Bz W1 N 6 _ _ (0,0) (BC.out.b 0);simp only[Fv,Dk,Cx]at h2;go_wp2_with fail;clear h2
 go_loopw [7,20] (λs7 FX wr=>∃(k c':Nat) (B:Option Cj),FX= Aa Ab k/\s7= Ad B k c'/\k<=np/\M<=wr.heap.size/\Hid (wr.ownsRow M 3 1 (Ad B k c') k (Ls ((Im ls s side).take k)))/\Hid (Bx w [(N,#[x1,y1,Aa Ac q1,x2,y2,Aa Ac q2,Ad pA np pc,Ad lA nl lc,Ad eA ne BH],263),(Q,#[Ad A n c],38),(P,#[.bool (((Im ls s side).take k).all λh=>decide (0<=h))],4)] wr)) (λ_ FX _=>np-(intOf FX).toNat)
 case atStart=>exact⟨0,0,Ae,rfl,rfl,Gv,JK,Ah ⟨rfl,.inl ⟨rfl,rfl⟩⟩,BC⟩
 obtain⟨k,c',B,rfl,rfl,hk,kx,HO,HH⟩:=hrel;clear BC JK;by_cases ac:k<np
 ·have q0:(k:Int)<(np:Int):=Gv;have be:k<s.ps.length:=oHx PT.out;obtain⟨b,o,hA,cj,d0,d1⟩:=Bo5 (HP.out _ HH.out.below) k be;have kg:=An0 ls s side k be;obtain⟨⟨p1,p2⟩,hp⟩:=ey (s.ps[k]);rw[hp]at d0 d1 kg;dsimp only at d0 d1;obtain⟨id,hid⟩:=ey (mJ side (p1,p2));rw[hid]at kg
  have BV:(if side=0 then Value.int .i64 (p1:Int)else Aa Ab (p2:Int))= Aa Ab (id:Int):=by
   rw[<-hid];unfold mJ;split<;>rfl
  have GE:=Ah (λw0=>(DX.out (Aa Ab (p1:Int)) (Aa Ab (p2:Int)) w0).trans (by rw[BV]));have DE:=GE.out;obtain⟨g,hg⟩:=ey ((((Im ls s side).take k).all λh=>decide (0<=h)));have xd:=Ah kg;have HG:=Ah hg;rw[hg]at HH;obtain⟨C,hC⟩:=ey wr.heap.size;have H2:=HH.out.new #[p1,p2] 377 hC;have KB:=HO.out.alloc (.cells #[p1,p2] 377);have AQ:M<=(wr.alloc (.cells #[p1,p2] 377)).heap.size:=Hv;subst hA;clear hp hid BV kg hg;go_upto_region 6 with fail
  try rw[hC]
  generalize wr.alloc _=W2 at H2 KB AQ⊢;clear hC HH HO kx d0 d1;obtain⟨⟨c0,c1⟩,-⟩:=Hm (H2.b 3);go_wp2_with fail;refine(lP id A ls n c Q P g W2 HN.out (dt.out _ H2.below) hl (H2.b 1) (H2.b 2)).mono ?_;rintro e W4 ⟨W3,rfl,hb,rfl⟩;obtain⟨r,hr⟩:=ey (Kh ls id);have kg:=xd.out;rw[hr]at kg⊢;have H3:=(H2.call hb).set 2 0 rfl (.bool (g&&decide (0<=r)));have FK:=Jb (Hz KB (Am _) hb) (jt.out #[] #[] #[] (P,#[],4) Gy) 0 (.bool (g&&decide (0<=r)));have lg:M<=(W3.setCell ⟨P,0,Ae⟩ (.bool (g&&decide (0<=r)))).heap.size:=by have:=hb.size;simp;omega
  generalize W3.setCell _ _=W5 at H3 FK lg⊢;obtain⟨A',c9,W6,ah,yh,bc,_,ul,_,_,_⟩:=Yi (sl:=38) Dl Nq rfl He He W5 M k (Ad B k c') _ FK lg Gv [Aa Ab r] rfl (by simp[Value.oneCell']);have H6:=(H3.upto 3).keepN (jt.out _ _ _) uz.out bc
  have xp:(g&&decide (0<=r))=((Im ls s side).take (k+1)).all λh=>decide (0<=h):=by
   rw[kg,List.all_append,HG.out];simp
  have P8:Hid (W6.ownsRow M 3 1 (Ad A' (k+1) c9) (k+1) (Ls ((Im ls s side).take (k+1)))):=Ah (by rw[kg,uO];exact yh);have qj:Hid (Bx w [(N,#[x1,y1,Aa Ac q1,x2,y2,Aa Ac q2,Ad (Af ⟨b,o,Ae⟩) np pc,Ad lA nl lc,Ad eA ne BH],263),(Q,#[Ad A n c],38),(P,#[.bool (((Im ls s side).take (k+1)).all λh=>decide (0<=h))],4)] W6):=Ah (by rw[<-xp];exact H6);have bf:=Ah ah;clear hb H2 KB AQ H3 FK lg hr kg xd HG xp H6 yh bc ah c0 c1 DE GE;go_wp2_with (at_builtin;refine As _ rfl _ _ _ _ rfl _ _ rfl rfl _ _ bf.out ?_);exact⟨⟨k+1,c9,A',by go_num,rfl,Gv,ul,P8,qj⟩,by simp[intOf];omega⟩
 ·obtain rfl:k=np:=Gv;have q0:¬(k:Int)<(k:Int):=Gv;have hlen:(Im ls s side).length=k:=by unfold Im;rw[Bp];exact PT.out.symm
  have ht:(Im ls s side).take k=Im ls s side:=Bg Gv;rw[ht]at HO HH;have h3:=Bz wr N 7 _ _ (0,0) (HH.out.b 0);simp only[Fv,Dk,Cx]at h3;have HTL:=Ah hlen;have BC:Hid (Bx w [(N,#[x1,y1,Aa Ac q1,x2,y2,Aa Ac q2,Ad pA k pc,Ad lA nl lc,Ad eA ne BH],263),(Q,#[Ad A n c],38),(P,#[.bool (Pf ls s side 0)],4)] wr):=Ah (by unfold Pf Mq;simpa using HH.out);clear ht hlen hk ac HH;have pi:=HO;go_wp2_with fail;clear h3 q0
  go_loopw [6,40] (λs6 Z1 wr=>∃(j m2 c2:Nat) (B2:Option Cj),Z1= Aa Ab j/\s6= Ad B2 m2 c2/\j<=nl/\M<=wr.heap.size/\Hid (m2=(Mq ls side (s.ls.take j)).length)/\Hid (wr.ownsRow M 56 2 (Ad B2 m2 c2) m2 (Qg ((Mq ls side (s.ls.take j)).map mm)))/\Hid (wr.ownsRow M 3 1 (Ad B k c') k (Ls (Im ls s side)))/\Hid (Bx w [(N,#[x1,y1,Aa Ac q1,x2,y2,Aa Ac q2,Ad pA k pc,Ad lA nl lc,Ad eA ne BH],263),(Q,#[Ad A n c],38),(P,#[.bool (Pf ls s side j)],4)] wr)) (λ_ Z1 _=>nl-(intOf Z1).toNat)
  case atStart=>exact⟨0,0,0,Ae,rfl,rfl,Gv,kx,Ah rfl,Ah ⟨rfl,.inl ⟨rfl,rfl⟩⟩,pi,BC⟩
  obtain⟨j,m2,c2,B2,rfl,rfl,hj,kx,JA,jm,HO,HH⟩:=hrel;clear BC pi;by_cases ac:j<nl
  ·have q0:(j:Int)<(nl:Int):=Gv;have me:j<s.ls.length:=oHx qk.out;obtain⟨b,o,hA,cj,d0,d1,d2⟩:=mM (HL.out _ HH.out.below) j me;have hy:=uW ls side s.ls j me;have qg:=Ah3 ls side s.ls j me
   have OC:m2<=1000000:=by
    have h1:=JA.out
    have h2:(Mq ls side (s.ls.take j)).length<=j:=by
     unfold Mq;rw[Bp];refine Bt (List.length_filter_le _ _) ?_;simp;omega
    omega
   obtain⟨⟨p0,p1,p2⟩,hp⟩:=ey (s.ls[j]);rw[hp]at d0 d1 d2 hy qg;dsimp only at d0 d1 d2 hy qg;obtain⟨C,hC⟩:=ey wr.heap.size;have H2:=HH.out.new #[Aa Ac p0,p1,p2] 266 hC;have KB:=HO.out.alloc (.cells #[Aa Ac p0,p1,p2] 266);have lv:=jm.out.alloc (.cells #[Aa Ac p0,p1,p2] 266);have AQ:M<=(wr.alloc (.cells #[Aa Ac p0,p1,p2] 266)).heap.size:=Hv;subst hA;clear hp;go_upto_region 11 with fail
   try rw[hC]
   generalize wr.alloc _=W2 at H2 KB lv AQ⊢;have hCM:M<=C:=Gv;clear hC HH HO jm kx d0 d1 d2;obtain⟨⟨c0,c1,l_⟩,-⟩:=Hg (H2.b 3);by_cases hs:p0=side
   ·subst hs;have hy:=hy rfl;clear qg;have HY:=Ah hy;clear hy;go_upto_region 12 with fail;obtain⟨S,an,HSO⟩:=Og λW'=>W'.cell? ⟨C,1,Ae⟩=Af (Aa Ab (p1:Int))/\W'.cell? ⟨C,2,Ae⟩=Af (Aa Ab (p2:Int))
    have lx:Hid (∀(X:Array Ak) W',Bx w [(N,#[x1,y1,Aa Ac q1,x2,y2,Aa Ac q2,Ad pA k pc,Ad (Af ⟨b,o,Ae⟩) nl lc,Ad eA ne BH],263),(Q,#[Ad A n c],38),(P,X,4),(C,#[Aa Ac p0,p1,p2],266)] W'->S W'):=Ah λX W' h=>by
     subst an;obtain⟨⟨_,r1,r2⟩,-⟩:=Hg (h.b 3);exact⟨r1,r2⟩
    clear c0 c1 l_;refine Ao (S:=S) Gx (lx.out _ _ H2.drew) (λhS=>?_);have H3:=H2.drew;have FK:W2.drew.ownsRow M 3 1 (Ad B k c') k (Ls (Im ls s p0)):=KB;have II:W2.drew.ownsRow M 56 2 (Ad B2 m2 c2) m2 (Qg ((Mq ls p0 (s.ls.take j)).map mm)):=lv;have lg:M<=W2.drew.heap.size:=AQ;generalize W2.drew=X0 at hS H3 FK II lg⊢;clear H2 KB lv AQ;refine Hk 0 1 2 4 ?_;refine Ql 5 6 ?_;refine rdy 3 (λK hK=>?_);go_simp;refine(lP p1 A ls n c Q P _ X0 HN.out (dt.out _ H3.below) hl (H3.b 1) (H3.b 2)).mono ?_;rintro e W4 ⟨W3,rfl,hb,rfl⟩;obtain⟨r1,ws⟩:=ey (Kh ls p1);obtain⟨r2,gp⟩:=ey (Kh ls p2);obtain⟨g,hg⟩:=ey (Pf ls s p0 j);have hy:=HY.out;rw[ws,gp]at hy
    have xp:Pf ls s p0 (j+1)=(g&&decide (0<=r1)&&decide (0<=r2)):=by
     rw[<-hg];unfold Pf;rw[hy,List.all_append,<-Bool.and_assoc];simp[Bool.and_assoc]
    have HY2:=Ah hy;rw[hg]at H3⊢;rw[ws];have H4:=(H3.call hb).set 2 0 rfl (.bool (g&&decide (0<=r1)));have KC:=Jb (Hz FK (Am _) hb) (jt.out #[] #[] #[] (P,#[],4) Gy) 0 (.bool (g&&decide (0<=r1)));have RE:=Jb (Hz II (Am _) hb) (jt.out #[] #[] #[] (P,#[],4) Gy) 0 (.bool (g&&decide (0<=r1)));have uk:M<=(W3.setCell ⟨P,0,Ae⟩ (.bool (g&&decide (0<=r1)))).heap.size:=by have:=hb.size;simp;omega
    dsimp only[Cg,Ch,Eu,Er,Ci]at H4;obtain⟨g1,nj⟩:=ey ((g&&decide (0<=r1)));rw[nj]at H4 KC RE uk xp⊢;have IX:=Ah xp;generalize W3.setCell _ _=X1 at H4 KC RE uk⊢;clear hb H3 FK II lg hy xp HY nj hg ws;refine hK.o (lx.out _ _ H4) (λhS=>?_);clear hK K;refine rdy 7 (λK hK=>?_);go_simp;refine(lP p2 A ls n c Q P g1 X1 HN.out (dt.out _ H4.below) hl (H4.b 1) (H4.b 2)).mono ?_;rintro e W4 ⟨W3,rfl,hb,rfl⟩;rw[gp];have H5:=(H4.call hb).set 2 0 rfl (.bool (g1&&decide (0<=r2)));have LR:=Jb (Hz KC (Am _) hb) (jt.out #[] #[] #[] (P,#[],4) Gy) 0 (.bool (g1&&decide (0<=r2)));have IJ:=Jb (Hz RE (Am _) hb) (jt.out #[] #[] #[] (P,#[],4) Gy) 0 (.bool (g1&&decide (0<=r2)));have td:M<=(W3.setCell ⟨P,0,Ae⟩ (.bool (g1&&decide (0<=r2)))).heap.size:=by have:=hb.size;simp;omega
    dsimp only[Cg,Ch,Eu,Er,Ci]at H5;rw[<-IX.out]at H5 LR IJ td⊢;generalize W3.setCell _ _=X2 at H5 LR IJ td⊢;clear hb H4 KC RE uk gp;refine hK.o (lx.out _ _ H5) (λhS=>?_);clear hK K;refine Ql 8 9 ?_;refine An Gx ?_ _;obtain⟨A',c9,W6,ah,Q9,bc,GY,ul,_,_,_⟩:=Yi (sl:=37) Tryz.underlying37 Au5 rfl He He X2 M m2 (Ad B2 m2 c2) _ IJ td Gv [Aa Ab (min r1 r2),Aa Ab (max r1 r2)] rfl (by simp[Value.oneCell']);have H6:=(H5.upto 3).keepN (jt.out _ _ _) uz.out bc;have yh:=Vl LR GY (Wk LR IJ He);have HP6:Hid (W6.ownsRow M 56 2 (Ad A' (m2+1) c9) (m2+1) (Qg ((Mq ls p0 (s.ls.take (j+1))).map mm))):=Ah (by rw[HY2.out,Ez,show List.map mm [(r1,r2)]=[(min r1 r2,max r1 r2)]from rfl,qM];exact Q9);have HO6:=Ah yh;have qj:Hid (Bx w [(N,#[x1,y1,Aa Ac q1,x2,y2,Aa Ac q2,Ad pA k pc,Ad (Af ⟨b,o,Ae⟩) nl lc,Ad eA ne BH],263),(Q,#[Ad A n c],38),(P,#[.bool (Pf ls s p0 (j+1))],4)] W6):=Ah H6;have GF:Hid (m2+1=(Mq ls p0 (s.ls.take (j+1))).length):=Ah (by rw[HY2.out,JA.out];simp);have bf:=Ah ah;clear H5 LR IJ td H6 yh Q9 bc GY ah hS HSO lx an;rcases Int.lt_trichotomy r1 r2 with ja|ja|ja
    ·have m1:min r1 r2=r1:=Gv;have ZH:max r1 r2=r2:=Gv;have q6:¬r2<r1:=Gv;have HRU:=bf;rw[m1,ZH]at HRU;clear m1 ZH;go_wp2_with (at_builtin;first|refine As _ rfl _ _ _ _ rfl _ _ rfl rfl _ _ HRU.out ?_|refine As _ rfl _ _ _ _ rfl _ _ rfl rfl _ _ bf.out ?_);exact⟨⟨j+1,m2+1,c9,A',by go_num,rfl,Gv,ul,GF,HP6,HO6,qj⟩,by simp[intOf];omega⟩
    subst ja;have m1:min r1 r1=r1:=Gv;have ZH:max r1 r1=r1:=Gv;rotate_left;have m1:min r1 r2=r2:=Gv;have ZH:max r1 r2=r1:=Gv;have q6:¬r1<r2:=Gv
    all_goals
     have HRU:=bf;rw[m1,ZH]at HRU;clear m1 ZH;go_wp2_with (at_builtin;first|refine As _ rfl _ _ _ _ rfl _ _ rfl rfl _ _ HRU.out ?_|refine As _ rfl _ _ _ _ rfl _ _ rfl rfl _ _ bf.out ?_);exact⟨⟨j+1,m2+1,c9,A',by go_num,rfl,Gv,ul,GF,HP6,HO6,qj⟩,by simp[intOf];omega⟩
   ·have qg:=qg hs;have xp:Pf ls s side (j+1)=Pf ls s side j:=by unfold Pf;rw[qg]
    have xa:Hid (Bx w [(N,#[x1,y1,Aa Ac q1,x2,y2,Aa Ac q2,Ad pA k pc,Ad (Af ⟨b,o,Ae⟩) nl lc,Ad eA ne BH],263),(Q,#[Ad A n c],38),(P,#[.bool (Pf ls s side (j+1))],4)] W2):=Ah (by rw[xp];exact H2.upto 3);have HM3:Hid (m2=(Mq ls side (s.ls.take (j+1))).length):=Ah (by rw[qg];exact JA.out);have AN:Hid (W2.ownsRow M 56 2 (Ad B2 m2 c2) m2 (Qg ((Mq ls side (s.ls.take (j+1))).map mm))):=Ah (by rw[qg];exact lv);have jm:=Ah KB;have q5:((p0:Int)==(side:Int))=false:=Hv;clear qg xp H2 lv KB hs hy;go_wp2;exact⟨⟨j+1,m2,c2,B2,by go_num,rfl,Gv,AQ,HM3,AN,jm,xa⟩,by simp[intOf];omega⟩
  ·obtain rfl:j=nl:=Gv;have q0:¬(j:Int)<(j:Int):=Gv;have ht:s.ls.take j=s.ls:=Bg (oHx qk.out)
   have hm:m2=(Te ls s side).length:=by
    rw[JA.out,ht];unfold Te;rw[Bp];rfl
   have QR:Pf ls s side j=Oo ls s side:=by unfold Pf Oo;rw[ht];rfl
   rw[ht]at jm;rw[QR]at HH;have h8:=Lx (HH.out.b 2);have F_:=HTL.out;obtain⟨g,hg⟩:=ey (Oo ls s side);rw[hg]at HH h8;obtain⟨h8,h9⟩:=h8;have HGG:=Ah hg;have PR:=Ah hm;clear hm;clear ht QR hg hj ac;go_upto_region 15 with fail;obtain⟨S,an,HSO⟩:=Og λW'=>W'.cell? ⟨P,0,Ae⟩=Af (.bool g);have tu:S wr.drew:=by subst an;exact h8
   have hS1:Hid (∀W',S W'->S (W'.setCell ⟨P,0,Ae⟩ (.bool g))):=Ah λW' h=>by subst an;exact World.cell?_setCell_same _ _ _ h
   refine Ao (S:=S) Gx tu (λhS=>?_);have H3:=HH.out.drew;have FK:wr.drew.ownsRow M 3 1 (Ad B k c') k (Ls (Im ls s side)):=HO.out;have II:wr.drew.ownsRow M 56 2 (Ad B2 m2 c2) m2 (Qg ((Mq ls side s.ls).map mm)):=jm.out;have h9:wr.drew.frozen? ⟨P,0,Ae⟩=false:=h9;have h8:wr.drew.cell? ⟨P,0,Ae⟩=Af (.bool g):=h8;generalize wr.drew=X0 at hS H3 FK II h9 h8⊢;have H4:=H3.set 2 0 rfl (.bool g);have KC:=Jb FK (jt.out #[] #[] #[] (P,#[],4) Gy) 0 (.bool g);have RE:=Jb II (jt.out #[] #[] #[] (P,#[],4) Gy) 0 (.bool g);clear H3 FK II tu;refine Hk 0 1 2 3 ?_;refine Ke 4 ?_;refine rdy 5 (λK hK=>?_);go_simp;refine hK.o (hS1.out _ hS) (λhS=>?_);clear hK K h8 h9;refine An Gx ?_ _;have h8:=HSO.out _ hS;obtain⟨A9,c99,e1,jy,qo⟩:=Hy RE;obtain⟨rfl,rfl⟩:B2=A9/\c2=c99:=by simpa using e1
   go_wp2_with fail;refine Ai (v:= .tuple #[Ad B2 m2 c2,Ad B k c',.bool g]) (by simp[results,Tryz.results208,go_sem,h8]) rfl ⟨B2,c2,B,c',m2,k,by rw[HGG.out],PR.out,F_.symm,jy,qo,Nn RE uz.out,Nn KC uz.out,H4.below⟩
end Go.Proofs.YtlgkpdfieaadaaaGreatDoor
namespace Go.Proofs
open Go.Shelf Go.RowKit
def Tryz.laysSortPs_ren:Go.Shelf.Ren:=⟨fun|6=>249|15=>85|14=>301|28=>149|29=>150|20=>312|21=>313|22=>314|23=>315|24=>316|25=>317|26=>318|27=>319|46=>330|47=>189|48=>190|49=>331|50=>332|57=>336|n=>n,fun|22=>260|24=>377|25=>380|3=>3|39=>176|0=>0|53=>251|55=>253|4=>4|46=>245|45=>244|50=>208|5=>5|9=>9|66=>307|70=>109|76=>369|77=>225|n=>n,fun|n=>n⟩
open Tryz in
def Tryz.laysSortPs:Go.Proofs.SlLaysF0.n6 Dp Tryz.laysSortPs_ren:={
 mixed:=Gx,f6:=lyb func249,f14:=lyb func301,f15:=lyf func85,f20:=lyb func312,f21:=lyb func313,f22:=lyb func314,f23:=lyb func315,f24:=lyb func316,f25:=lyb func317,f26:=lyb func318,f27:=lyb func319,f28:=lyf func149,f29:=lyf func150,f46:=lyb func330,f47:=lyf func189,f48:=lyf func190,f49:=lyb func331,f50:=lyb func332,f57:=lyb func336,t0:=underlying0,a0:=isAgg0,z0:=sizeOf0,v0:=zeroValue0,t3:=underlying3,a3:=isAgg3,z3:=sizeOf3,v3:=zeroValue3,t4:=underlying4,a4:=isAgg4,z4:=sizeOf4,v4:=zeroValue4,t5:=underlying5,a5:=isAgg5,z5:=sizeOf5,v5:=zeroValue5,t9:=underlying9,a9:=isAgg9,z9:=sizeOf9,v9:=zeroValue9,t22:=underlying260,a22:=isAgg260,z22:=sizeOf260,v22:=zeroValue260,t25:=underlying380,a25:=isAgg380,z25:=sizeOf380,v25:=zeroValue380,t39:=underlying176,a39:=isAgg176,z39:=sizeOf176,v39:=zeroValue176,t45:=underlying244,a45:=isAgg244,z45:=sizeOf244,v45:=zeroValue244,t46:=underlying245,a46:=isAgg245,z46:=sizeOf245,v46:=zeroValue245,t50:=underlying208,a50:=isAgg208,z50:=sizeOf208,v50:=zeroValue208,t53:=underlying251,a53:=isAgg251,z53:=sizeOf251,v53:=zeroValue251,t55:=underlying253,a55:=isAgg253,z55:=sizeOf253,v55:=zeroValue253,t66:=underlying307,a66:=isAgg307,z66:=sizeOf307,v66:=zeroValue307,t70:=underlying109,a70:=isAgg109,z70:=sizeOf109,v70:=zeroValue109,t76:=underlying369,a76:=isAgg369,z76:=sizeOf369,v76:=zeroValue369,t77:=underlying225,a77:=isAgg225,z77:=sizeOf225,v77:=zeroValue225}
end Go.Proofs
namespace Go.Proofs.YtlgkpdfieaadaaaGreatDoor
open Go.RowKit Go.Sort
def sM (Pb B:Nat) (hs:List Nat) (W:Aj):Prop:=W.cell? ⟨Pb,0,Ae⟩=Af (.pointer (Af ⟨B,0,Ae⟩))/\∃H ch,W.cell? ⟨B,5,Ae⟩=Af (Ad H hs.length ch)/\Rd W H 1 hs.length (Ih hs)
abbrev PsE (n:Nat):={x:Nat×Nat//x.1<n}
def psV {n:Nat} (x:PsE n):List Ak:=Xg x.1
def wE (hs:List Nat) (x y:PsE hs.length):Int:=Ik (hs[x.1.1]'x.2:Int) (hs[y.1.1]'y.2:Int)
def vY (Pb B:Nat) (hs:List Nat) (x y:PsE hs.length) (w:Aj) (h:sM Pb B hs w):
  Al Dp 250 (#[.agg (psV x).toArray,.agg (psV y).toArray]++ #[.pointer (Af ⟨Pb,0,Ae⟩)]) w (Uw (Aa Ab (wE hs x y)) w):=by
 obtain⟨h0,H,ch,h1,h2⟩:=h;obtain⟨⟨x1,x2⟩,hx⟩:=x;obtain⟨⟨y1,y2⟩,hy⟩:=y;dsimp only at hx hy;obtain⟨b,o,rfl,cj,e0⟩:=Rp h2 x1 hx;obtain⟨b',o',hA,-,e1⟩:=Rp h2 y1 hy;obtain⟨rfl,rfl⟩:b=b'/\o=o':=by simpa using hA
 unfold psV wE Xg;dsimp only;obtain⟨u,hu⟩:=ey (hs[x1]);obtain⟨v,hv⟩:=ey (hs[y1]);rw[hu]at e0⊢;rw[hv]at e1⊢;have HC:=Ah (λw'=>Nf (u:Int) (v:Int) w');obtain⟨r,hr⟩:=ey (Ik (u:Int) (v:Int));rw[hr]at HC⊢;obtain⟨n,hn⟩:=ey hs.length;rw[hn]at h1 hx hy;have dh:Bd w ((w.alloc (.cells #[x1,x2] 377)).alloc (.cells #[y1,y2] 377)):=((Bd.refl w).alloc _).alloc _;have HB:=((Bx.start w).new #[x1,x2] 377 rfl).new #[y1,y2] 377 (N:=w.heap.size+1) Gy;have h0:=Gw dh.b h0;have h1:=Gw dh.b h1;have e0:=Gw dh.b e0;have e1:=Gw dh.b e1;have q1:(x1:Int)<(n:Int):=Gv;have q2:(y1:Int)<(n:Int):=Gv;clear h2 hA hu hv hr hn cj;go_in;go_upto_region 1 with fail;generalize (w.alloc _).alloc _=W at HB dh h0 h1 e0 e1⊢;obtain⟨N,ct⟩:=Tw w.heap.size;rw[<-ct.out]at HB⊢;generalize N+1=P at HB⊢;obtain⟨⟨a0,-⟩,-⟩:=Hm (HB.b 0);obtain⟨⟨b0,-⟩,-⟩:=Hm (HB.b 1);have fa:=Ah dh.drew;obtain⟨S,an,HSO⟩:=Og λW'=>(W'.cell? ⟨Pb,0,Ae⟩=Af (.pointer (Af ⟨B,0,Ae⟩))/\W'.cell? ⟨B,5,Ae⟩=Af (Ad (Af ⟨b,o,Ae⟩) n ch))/\(W'.cell? ⟨b,o+x1,Ae⟩=Af (Aa Ab (u:Int))/\W'.cell? ⟨b,o+y1,Ae⟩=Af (Aa Ab (v:Int)))/\W'.cell? ⟨N,0,Ae⟩=Af (Aa Ab (x1:Int))/\W'.cell? ⟨P,0,Ae⟩=Af (Aa Ab (y1:Int))
 have ag:Hid (∀W',Below W.heap.size W W'->S W'):=Ah λW' h=>by
  subst an;exact⟨⟨Gw h h0,Gw h h1⟩,⟨Gw h e0,Gw h e1⟩,Gw h a0,Gw h b0⟩
 clear an h0 h1 e0 e1 a0 b0 dh HB;refine Ao (S:=S) Gx (ag.out _ (Ag _ _).drew) (λhS=>?_);have hb:Below W.heap.size W W.drew:=(Ag _ _).drew;generalize W.drew=X0 at hb hS fa⊢;refine Hk 0 1 2 3 ?_;refine Hk 4 5 6 7 ?_;refine Hk 8 9 10 11 ?_;refine Hk 12 13 14 15 ?_;refine rdy 16 (λK hK=>?_);go_simp;refine(HC.out _).mono ?_;rintro e X1 ⟨rfl,ad⟩;have HBD2:=Ah (fa.out.trans ad);refine hK.o (ag.out _ (Up hb ad.b)) (λhS=>?_);clear hK K ad;refine Ke 17 ?_;refine An Gx ?_ _;go_wp2;go_ret;exact⟨rfl,HBD2.out⟩
def By7 (hs:List Nat) (x y:PsE hs.length):ltOf (wE hs) x y=decide (hs[x.1.1]'x.2<hs[y.1.1]'y.2):=by
 unfold ltOf wE;rw[decide_eq_decide,Mx];omega
def Cg4 (hs:List Nat):SWO (ltOf (wE hs)) where
 irrefl x:=by rw[By7,Rt];omega
 trans x y z h1 h2:=by rw[By7,decide_eq_true_iff]at*;omega
 ntrans x y z h1 h2:=by rw[By7,Rt]at*;omega
def Bk5 (w:Aj):(isAgg 377).run Dp w= .ok true w:=Gx
def Ca5 (w:Aj):(Go.sizeOf 377).run Dp w= .ok 2 w:=Gx
def xH (Pb Bb:Nat) (hs:List Nat) (hn:0<hs.length) {O m c:Nat} {B:Option Cj} (l:List (PsE hs.length)) (w:Aj) (h:w.ownsRow O 377 2 (Ad B m c) m (l.flatMap psV)) (hm:m<=1000000)
  (hg:∀W',w.grownBy W' (Value.slice B m c).ownBlock->sM Pb Bb hs W'):
  Al Dp 249 #[Ad B m c,.func (.func 250) #[] #[.pointer (Af ⟨Pb,0,Ae⟩)]] w (Lm psV (wE hs) l O 377 2 m (Ad B m c) w):=by
 haveI:Inhabited (PsE hs.length):=⟨⟨(0,0),hn⟩⟩
 exact Tq Tryz.laysSortPs 2 He Bk5 Ca5 psV (λ_=>rfl) (λx v hv=>by
  simp[psV,Xg]at hv;rcases hv with rfl|rfl<;>rfl) (wE hs) (Cg4 hs) 250 #[.pointer (Af ⟨Pb,0,Ae⟩)] (enters_of Tryz.func250 Gx rfl) l w h hm (λW' hW x y=>vY Pb Bb hs x y W' (hg W' hW))
def orI (p q:Int):Int:=if p≠0 then p else q
def Zi {p q:Int}:orI p q<0↔p<0∨(p=0/\q<0):=by
 unfold orI
 split<;>omega
def oA (a b:Int) (w:Aj):Al Dp 134 #[Aa Ac a,Aa Ac b] w (Uw (Aa Ab (Ik a b)) w):=by
 obtain⟨R,hR⟩:=ey (Ik a b);rw[hR];have HR:=Ah hR;clear hR;go_in;go_wp2_with (go_in)
 all_goals go_ret
 all_goals refine⟨Iw ?_,Bd.refl _⟩
 all_goals rw[<-HR.out]
 all_goals first|rw[Tv Gv]|rw[kX Gv]|rw[kW Gv Gv]
def vR (g cp:Nat) (p q:Int) (w:Aj) (h:w.rangeAt g 0 [Aa Ab p,Aa Ab q]):Al Dp 133 #[Ad (Af ⟨g,0,Ae⟩) 2 cp] w (Uw (Aa Ab (orI p q)) w):=by
 have c0:=h 0 _ rfl;have c1:=h 1 _ rfl;simp only[Nat.reduceAdd]at c0 c1;clear h;obtain⟨R,hR⟩:=ey (orI p q);rw[hR];have HR:=Ah hR;clear hR;go_in;go_wp2
 go_loopw [8] (λs8 wr=>∃k:Nat,k<=2/\s8= Aa Ab k/\Hid (w=wr)/\Hid ((1<=k->p=0)/\(2<=k->q=0))) (λs8 _=>2-(intOf s8).toNat)
 case atStart=>exact⟨0,Gv,rfl,Ah rfl,Ah ⟨λh=>absurd h Gv,λh=>absurd h Gv⟩⟩
 obtain⟨k,hk,rfl,hw,HZ⟩:=hrel;obtain rfl:=hw.out;clear hw;have h4:k=0∨k=1∨k=2:=Gv;rcases h4 with rfl|rfl|rfl
 ·by_cases hz:p=0
  ·have FT:(p != 0)=false:=by simpa using hz
   have ki:Hid ((1<=1->p=0)/\(2<=1->q=0)):=Ah ⟨λ_=>hz,λh=>absurd h Gv⟩;clear hz HZ;go_wp2;exact⟨⟨1,Gv,rfl,Ah trivial,ki⟩,by simp[intOf]⟩
  ·have FT:(p != 0)=true:=by simpa using hz
   have HF:=Ah (show R=p by rw[<-HR.out];unfold orI;rw[Hc hz]);clear hz HZ;go_wp2;go_ret;exact⟨by rw[HF.out];rfl,Bd.refl _⟩
 ·have mu:=HZ.out.1 Gv;by_cases hz:q=0
  ·have FT:(q != 0)=false:=by simpa using hz
   have ki:Hid ((1<=2->p=0)/\(2<=2->q=0)):=Ah ⟨λ_=>mu,λ_=>hz⟩;clear hz HZ mu;go_wp2;exact⟨⟨2,Gv,rfl,Ah trivial,ki⟩,by simp[intOf]⟩
  ·have FT:(q != 0)=true:=by simpa using hz
   have HF:=Ah (show R=q by rw[<-HR.out];unfold orI;rw[Ha (by simpa using mu)]);clear hz HZ mu;go_wp2;go_ret;exact⟨by rw[HF.out];rfl,Bd.refl _⟩
 ·have mu:=HZ.out.1 Gv;have IM:=HZ.out.2 Gv;have HF:=Ah (show R=0 by rw[<-HR.out];unfold orI;rw[Ha (by simpa using mu),IM]);clear HZ mu IM;go_wp2;go_ret;exact⟨by rw[HF.out];rfl,Bd.refl _⟩
end Go.Proofs.YtlgkpdfieaadaaaGreatDoor
namespace Go.Proofs
open Go.Shelf Go.RowKit
def Tryz.laysSortLp_ren:Go.Shelf.Ren:=⟨fun|6=>251|15=>85|14=>302|28=>149|29=>150|20=>320|21=>321|22=>322|23=>323|24=>324|25=>325|26=>326|27=>327|46=>333|47=>189|48=>190|49=>334|50=>335|57=>337|n=>n,fun|22=>261|24=>266|25=>382|3=>3|39=>176|0=>0|53=>251|55=>253|4=>4|46=>245|45=>244|50=>208|5=>5|9=>9|66=>307|70=>109|76=>369|77=>225|n=>n,fun|n=>n⟩
open Tryz in
def Tryz.laysSortLp:Go.Proofs.SlLaysF0.n6 Dp Tryz.laysSortLp_ren:={
 mixed:=Gx,f6:=lyb func251,f14:=lyb func302,f15:=lyf func85,f20:=lyb func320,f21:=lyb func321,f22:=lyb func322,f23:=lyb func323,f24:=lyb func324,f25:=lyb func325,f26:=lyb func326,f27:=lyb func327,f28:=lyf func149,f29:=lyf func150,f46:=lyb func333,f47:=lyf func189,f48:=lyf func190,f49:=lyb func334,f50:=lyb func335,f57:=lyb func337,t0:=underlying0,a0:=isAgg0,z0:=sizeOf0,v0:=zeroValue0,t3:=underlying3,a3:=isAgg3,z3:=sizeOf3,v3:=zeroValue3,t4:=underlying4,a4:=isAgg4,z4:=sizeOf4,v4:=zeroValue4,t5:=underlying5,a5:=isAgg5,z5:=sizeOf5,v5:=zeroValue5,t9:=underlying9,a9:=isAgg9,z9:=sizeOf9,v9:=zeroValue9,t22:=underlying261,a22:=isAgg261,z22:=sizeOf261,v22:=zeroValue261,t25:=underlying382,a25:=isAgg382,z25:=sizeOf382,v25:=zeroValue382,t39:=underlying176,a39:=isAgg176,z39:=sizeOf176,v39:=zeroValue176,t45:=underlying244,a45:=isAgg244,z45:=sizeOf244,v45:=zeroValue244,t46:=underlying245,a46:=isAgg245,z46:=sizeOf245,v46:=zeroValue245,t50:=underlying208,a50:=isAgg208,z50:=sizeOf208,v50:=zeroValue208,t53:=underlying251,a53:=isAgg251,z53:=sizeOf251,v53:=zeroValue251,t55:=underlying253,a55:=isAgg253,z55:=sizeOf253,v55:=zeroValue253,t66:=underlying307,a66:=isAgg307,z66:=sizeOf307,v66:=zeroValue307,t70:=underlying109,a70:=isAgg109,z70:=sizeOf109,v70:=zeroValue109,t76:=underlying369,a76:=isAgg369,z76:=sizeOf369,v76:=zeroValue369,t77:=underlying225,a77:=isAgg225,z77:=sizeOf225,v77:=zeroValue225}
end Go.Proofs
namespace Go.Proofs.YtlgkpdfieaadaaaGreatDoor
open Go.RowKit Go.Sort
abbrev LpE (n:Nat):={x:Nat×Nat×Nat//x.2.1<n}
def lpV {n:Nat} (x:LpE n):List Ak:=Xd x.1
def uY (hs:List Nat) (x y:LpE hs.length):Int:=orI (Ik x.1.1 y.1.1) (Ik (hs[x.1.2.1]'x.2:Int) (hs[y.1.2.1]'y.2:Int))
def uV (Pb B:Nat) (hs:List Nat) (x y:LpE hs.length) (w:Aj) (h:sM Pb B hs w):
  Al Dp 252 (#[.agg (lpV x).toArray,.agg (lpV y).toArray]++ #[.pointer (Af ⟨Pb,0,Ae⟩)]) w (Uw (Aa Ab (uY hs x y)) w):=by
 obtain⟨h0,H,ch,h1,h2⟩:=h;obtain⟨⟨x0,x1,x2⟩,hx⟩:=x;obtain⟨⟨y0,y1,y2⟩,hy⟩:=y;dsimp only at hx hy;obtain⟨b,o,rfl,cj,e0⟩:=Rp h2 x1 hx;obtain⟨b',o',hA,-,e1⟩:=Rp h2 y1 hy;obtain⟨rfl,rfl⟩:b=b'/\o=o':=by simpa using hA
 unfold lpV uY Xd;dsimp only;obtain⟨u,hu⟩:=ey (hs[x1]);obtain⟨v,hv⟩:=ey (hs[y1]);rw[hu]at e0⊢;rw[hv]at e1⊢;have pa:=Ah (λw'=>oA (x0:Int) (y0:Int) w');have DR:=Ah (λw'=>Nf (u:Int) (v:Int) w');obtain⟨p,hp⟩:=ey (Ik (x0:Int) (y0:Int));obtain⟨q,hq⟩:=ey (Ik (u:Int) (v:Int));rw[hp]at pa⊢;rw[hq]at DR⊢;obtain⟨n,hn⟩:=ey hs.length;rw[hn]at h1 hx hy;have dh:Bd w ((w.alloc (.cells #[Aa Ac x0,x1,x2] 266)).alloc (.cells #[Aa Ac y0,y1,y2] 266)):=((Bd.refl w).alloc _).alloc _;have HB:=((Bx.start w).new #[Aa Ac x0,x1,x2] 266 rfl).new #[Aa Ac y0,y1,y2] 266 (N:=w.heap.size+1) Gy;have h0:=Gw dh.b h0;have h1:=Gw dh.b h1;have e0:=Gw dh.b e0;have e1:=Gw dh.b e1;have q1:(x1:Int)<(n:Int):=Gv;have q2:(y1:Int)<(n:Int):=Gv;clear h2 hA hu hv hp hq hn cj;go_in;go_upto_region 1 with fail;generalize (w.alloc _).alloc _=W at HB dh h0 h1 e0 e1⊢;obtain⟨N,ct⟩:=Tw w.heap.size;rw[<-ct.out]at HB⊢;generalize N+1=P at HB⊢;obtain⟨⟨a0,a1,-⟩,-⟩:=Hg (HB.b 0);obtain⟨⟨b0,b1,-⟩,-⟩:=Hg (HB.b 1);have fa:=Ah dh.drew;obtain⟨S,an,HSO⟩:=Og λW'=>(W'.cell? ⟨Pb,0,Ae⟩=Af (.pointer (Af ⟨B,0,Ae⟩))/\W'.cell? ⟨B,5,Ae⟩=Af (Ad (Af ⟨b,o,Ae⟩) n ch))/\(W'.cell? ⟨b,o+x1,Ae⟩=Af (Aa Ab (u:Int))/\W'.cell? ⟨b,o+y1,Ae⟩=Af (Aa Ab (v:Int)))/\(W'.cell? ⟨N,0,Ae⟩=Af (Aa Ac (x0:Int))/\W'.cell? ⟨N,1,Ae⟩=Af (Aa Ab (x1:Int)))/\W'.cell? ⟨P,0,Ae⟩=Af (Aa Ac (y0:Int))/\W'.cell? ⟨P,1,Ae⟩=Af (Aa Ab (y1:Int))
 have ag:Hid (∀W',Below W.heap.size W W'->S W'):=Ah λW' h=>by
  subst an;exact⟨⟨Gw h h0,Gw h h1⟩,⟨Gw h e0,Gw h e1⟩,⟨Gw h a0,Gw h a1⟩,Gw h b0,Gw h b1⟩
 clear an h0 h1 e0 e1 a0 a1 b0 b1 dh HB;refine Ao (S:=S) Gx (ag.out _ (Ag _ _).drew) (λhS=>?_);have hb:Below W.heap.size W W.drew:=(Ag _ _).drew;generalize W.drew=X0 at hb hS fa⊢;refine Hk 0 1 2 3 ?_;refine Hk 5 6 7 8 ?_;refine Hk 9 10 11 12 ?_;refine Hk 13 14 15 16 ?_;refine Hk 17 18 19 20 ?_;refine rdy 4 (λK hK=>?_);go_simp;refine(pa.out _).mono ?_;rintro e X1 ⟨rfl,ad⟩;have fa:=Ah (fa.out.trans ad);have hb:=Up hb ad.b;refine hK.o (ag.out _ hb) (λhS=>?_);clear hK K ad;refine rdy 21 (λK hK=>?_);go_simp;refine(DR.out _).mono ?_;rintro e X2 ⟨rfl,ad⟩;have fa:=Ah (fa.out.trans ad);have hb:=Up hb ad.b;refine hK.o (ag.out _ hb) (λhS=>?_);clear hK K ad
 have hr:(X2.alloc (.cells #[p,q] 3)).rangeAt X2.heap.size 0 [Aa Ab p,Aa Ab q]:=λj v hj=>by
  rw[Bu,Bz _ _ j _ _ (0,0) (Ca X2 _)];simpa using hj
 have HOR:=Ah (vR X2.heap.size 2 p q _ hr);have fa:=Ah (fa.out.alloc (.cells #[p,q] 3));have hb:=hb.alloc hb.size (.cells #[p,q] 3);clear hr;refine rdy 22 (λK hK=>?_);go_simp;refine hK.o (ag.out _ hb) (λhS=>?_);clear hK K;refine rdy 23 (λK hK=>?_);go_simp;refine HOR.out.mono ?_;rintro e X3 ⟨rfl,ad⟩;have fa:=Ah (fa.out.trans ad);have hb:=Up hb ad.b;refine hK.o (ag.out _ hb) (λhS=>?_);clear hK K ad;refine Ke 24 ?_;refine An Gx ?_ _;go_wp2;go_ret;exact⟨rfl,fa.out⟩
def By5 (hs:List Nat) (x y:LpE hs.length):ltOf (uY hs) x y=decide (x.1.1<y.1.1∨(x.1.1=y.1.1/\hs[x.1.2.1]'x.2<hs[y.1.2.1]'y.2)):=by
 unfold ltOf uY;rw[decide_eq_decide,Zi,Mx,Jf,Mx];omega
def Cg2 (hs:List Nat):SWO (ltOf (uY hs)) where
 irrefl x:=by rw[By5,Rt];omega
 trans x y z h1 h2:=by rw[By5,decide_eq_true_iff]at*;omega
 ntrans x y z h1 h2:=by rw[By5,Rt]at*;omega
def Bk3 (w:Aj):(isAgg 266).run Dp w= .ok true w:=Gx
def Ca3 (w:Aj):(Go.sizeOf 266).run Dp w= .ok 3 w:=Gx
def xE (Pb Bb:Nat) (hs:List Nat) (hn:0<hs.length) {O m c:Nat} {B:Option Cj} (l:List (LpE hs.length)) (w:Aj) (h:w.ownsRow O 266 3 (Ad B m c) m (l.flatMap lpV)) (hm:m<=1000000)
  (hg:∀W',w.grownBy W' (Value.slice B m c).ownBlock->sM Pb Bb hs W'):
  Al Dp 251 #[Ad B m c,.func (.func 252) #[] #[.pointer (Af ⟨Pb,0,Ae⟩)]] w (Lm lpV (uY hs) l O 266 3 m (Ad B m c) w):=by
 haveI:Inhabited (LpE hs.length):=⟨⟨(0,0,0),hn⟩⟩
 exact Tq Tryz.laysSortLp 3 He Bk3 Ca3 lpV (λ_=>rfl) (λx v hv=>by
  simp[lpV,Xd]at hv;rcases hv with rfl|rfl|rfl<;>rfl) (uY hs) (Cg2 hs) 252 #[.pointer (Af ⟨Pb,0,Ae⟩)] (enters_of Tryz.func252 Gx rfl) l w h hm (λW' hW x y=>uV Pb Bb hs x y W' (hg W' hW))
end Go.Proofs.YtlgkpdfieaadaaaGreatDoor
namespace Go.Proofs
open Go.Shelf Go.RowKit
def Tryz.laysSortPk_ren:Go.Shelf.Ren:=⟨fun|6=>204|15=>85|14=>248|28=>149|29=>150|20=>293|21=>294|22=>295|23=>296|24=>297|25=>298|26=>299|27=>300|46=>309|47=>189|48=>190|49=>310|50=>311|57=>329|n=>n,fun|22=>324|24=>329|25=>330|3=>3|39=>176|0=>0|53=>251|55=>253|4=>4|46=>245|45=>244|50=>208|5=>5|9=>9|66=>307|70=>109|76=>369|77=>225|n=>n,fun|n=>n⟩
open Tryz in
def Tryz.laysSortPk:Go.Proofs.SlLaysF0.n6 Dp Tryz.laysSortPk_ren:={
 mixed:=Gx,f6:=lyb func204,f14:=lyb func248,f15:=lyf func85,f20:=lyb func293,f21:=lyb func294,f22:=lyb func295,f23:=lyb func296,f24:=lyb func297,f25:=lyb func298,f26:=lyb func299,f27:=lyb func300,f28:=lyf func149,f29:=lyf func150,f46:=lyb func309,f47:=lyf func189,f48:=lyf func190,f49:=lyb func310,f50:=lyb func311,f57:=lyb func329,t0:=underlying0,a0:=isAgg0,z0:=sizeOf0,v0:=zeroValue0,t3:=underlying3,a3:=isAgg3,z3:=sizeOf3,v3:=zeroValue3,t4:=underlying4,a4:=isAgg4,z4:=sizeOf4,v4:=zeroValue4,t5:=underlying5,a5:=isAgg5,z5:=sizeOf5,v5:=zeroValue5,t9:=underlying9,a9:=isAgg9,z9:=sizeOf9,v9:=zeroValue9,t22:=underlying324,a22:=isAgg324,z22:=sizeOf324,v22:=zeroValue324,t25:=underlying330,a25:=isAgg330,z25:=sizeOf330,v25:=zeroValue330,t39:=underlying176,a39:=isAgg176,z39:=sizeOf176,v39:=zeroValue176,t45:=underlying244,a45:=isAgg244,z45:=sizeOf244,v45:=zeroValue244,t46:=underlying245,a46:=isAgg245,z46:=sizeOf245,v46:=zeroValue245,t50:=underlying208,a50:=isAgg208,z50:=sizeOf208,v50:=zeroValue208,t53:=underlying251,a53:=isAgg251,z53:=sizeOf251,v53:=zeroValue251,t55:=underlying253,a55:=isAgg253,z55:=sizeOf253,v55:=zeroValue253,t66:=underlying307,a66:=isAgg307,z66:=sizeOf307,v66:=zeroValue307,t70:=underlying109,a70:=isAgg109,z70:=sizeOf109,v70:=zeroValue109,t76:=underlying369,a76:=isAgg369,z76:=sizeOf369,v76:=zeroValue369,t77:=underlying225,a77:=isAgg225,z77:=sizeOf225,v77:=zeroValue225}
end Go.Proofs
namespace Go.Proofs.YtlgkpdfieaadaaaGreatDoor
open Go.RowKit Go.Sort
variable {O m c e sz n g N T B M:Nat} {w w' W wr Y w1 w2 w3:Aj} {v v0 v1 kv kv':Ak} {z0 z1 z:List SkR} {x:SkR} {K C a b:Int} {l l1 l2 L l':List Stk} {A3 A:Option Cj} {gr jl:List (Option Cj×Nat)} {α β:Type} {F:List Nat} {f:Sm->Sm} {s:Sm} {k:Lk}
abbrev PkE:={x:Cl×Cl//x.1.q<=255/\x.2.q<=255}
instance:Inhabited PkE:=⟨⟨(cl0,cl0),He⟩⟩
def pkC (p:Cl×Cl):List Ak:=[Aa Ab p.1.x,Aa Ab p.1.y,Aa Ac p.1.q,Aa Ab p.2.x,Aa Ab p.2.y,Aa Ac p.2.q]
def pkV (x:PkE):List Ak:=pkC x.1
def Aj5 (x y:PkE):Int:=orI (Ka x.1.1 y.1.1) (Ka x.1.2 y.1.2)
def Ag4 (x y:PkE) (w:Aj):Al Dp 205 #[.agg (pkV x).toArray,.agg (pkV y).toArray] w (Uw (Aa Ab (Aj5 x y)) w):=by
 obtain⟨⟨⟨x0,x1,x2⟩,x3,x4,x5⟩,VL,VM⟩:=x;obtain⟨⟨⟨y0,y1,y2⟩,y3,y4,y5⟩,qv,vu⟩:=y;unfold pkV Aj5 pkC;dsimp only at VL VM qv vu⊢;have pa:=Ah (λw'=>Tx ⟨x0,x1,x2⟩ ⟨y0,y1,y2⟩ w' VL qv);have DR:=Ah (λw'=>Tx ⟨x3,x4,x5⟩ ⟨y3,y4,y5⟩ w' VM vu);obtain⟨p,hp⟩:=ey (Ka ⟨x0,x1,x2⟩ ⟨y0,y1,y2⟩);obtain⟨q,hq⟩:=ey (Ka ⟨x3,x4,x5⟩ ⟨y3,y4,y5⟩);rw[hp]at pa⊢;rw[hq]at DR⊢;dsimp only at pa DR;have dh:Bd w ((w.alloc (.cells #[x0,x1,Aa Ac x2,x3,x4,Aa Ac x5] 329)).alloc (.cells #[y0,y1,Aa Ac y2,y3,y4,Aa Ac y5] 329)):=((Bd.refl w).alloc _).alloc _;have HB:=((Bx.start w).new #[x0,x1,Aa Ac x2,x3,x4,Aa Ac x5] 329 rfl).new #[y0,y1,Aa Ac y2,y3,y4,Aa Ac y5] 329 (N:=w.heap.size+1) Gy;clear hp hq;go_in;go_upto_region 1 with fail;generalize (w.alloc _).alloc _=W at HB dh⊢;obtain⟨N,ct⟩:=Tw w.heap.size;rw[<-ct.out]at HB⊢;generalize N+1=P at HB⊢;obtain⟨⟨a0,a1,a2,a3,a4,a5⟩,-⟩:=cY (HB.b 0);obtain⟨⟨b0,b1,b2,b3,b4,b5⟩,-⟩:=cY (HB.b 1);have fa:=Ah dh.drew;obtain⟨S,an,HSO⟩:=Og λW'=>(W'.cell? ⟨N,0,Ae⟩=Af (Aa Ab x0)/\W'.cell? ⟨N,1,Ae⟩=Af (Aa Ab x1)/\W'.cell? ⟨N,2,Ae⟩=Af (Aa Ac x2)/\W'.cell? ⟨N,3,Ae⟩=Af (Aa Ab x3)/\W'.cell? ⟨N,4,Ae⟩=Af (Aa Ab x4)/\W'.cell? ⟨N,5,Ae⟩=Af (Aa Ac x5))/\(W'.cell? ⟨P,0,Ae⟩=Af (Aa Ab y0)/\W'.cell? ⟨P,1,Ae⟩=Af (Aa Ab y1)/\W'.cell? ⟨P,2,Ae⟩=Af (Aa Ac y2)/\W'.cell? ⟨P,3,Ae⟩=Af (Aa Ab y3)/\W'.cell? ⟨P,4,Ae⟩=Af (Aa Ab y4)/\W'.cell? ⟨P,5,Ae⟩=Af (Aa Ac y5))
 have ag:Hid (∀W',Below W.heap.size W W'->S W'):=Ah λW' h=>by
  subst an;exact⟨⟨Gw h a0,Gw h a1,Gw h a2,Gw h a3,Gw h a4,Gw h a5⟩,Gw h b0,Gw h b1,Gw h b2,Gw h b3,Gw h b4,Gw h b5⟩
 clear an a0 a1 a2 a3 a4 a5 b0 b1 b2 b3 b4 b5 dh HB;refine Ao (S:=S) Gx (ag.out _ (Ag _ _).drew) (λhS=>?_);have hb:Below W.heap.size W W.drew:=(Ag _ _).drew;generalize W.drew=X0 at hb hS fa⊢;refine Hk 0 1 2 3 ?_;refine Hk 5 6 7 8 ?_;refine rdy 4 (λK hK=>?_);go_simp;refine(pa.out _).mono ?_;rintro e X1 ⟨rfl,ad⟩;have fa:=Ah (fa.out.trans ad);have hb:=Up hb ad.b;refine hK.o (ag.out _ hb) (λhS=>?_);clear hK K ad;refine rdy 9 (λK hK=>?_);go_simp;refine(DR.out _).mono ?_;rintro e X2 ⟨rfl,ad⟩;have fa:=Ah (fa.out.trans ad);have hb:=Up hb ad.b;refine hK.o (ag.out _ hb) (λhS=>?_);clear hK K ad
 have hr:(X2.alloc (.cells #[p,q] 3)).rangeAt X2.heap.size 0 [Aa Ab p,Aa Ab q]:=λj v hj=>by
  rw[Bu,Bz _ _ j _ _ (0,0) (Ca X2 _)];simpa using hj
 have HOR:=Ah (vR X2.heap.size 2 p q _ hr);have fa:=Ah (fa.out.alloc (.cells #[p,q] 3));have hb:=hb.alloc hb.size (.cells #[p,q] 3);clear hr;refine rdy 10 (λK hK=>?_);go_simp;refine hK.o (ag.out _ hb) (λhS=>?_);clear hK K;refine rdy 11 (λK hK=>?_);go_simp;refine HOR.out.mono ?_;rintro e X3 ⟨rfl,ad⟩;have fa:=Ah (fa.out.trans ad);have hb:=Up hb ad.b;refine hK.o (ag.out _ hb) (λhS=>?_);clear hK K ad;refine Ke 12 ?_;refine An Gx ?_ _;go_wp2;go_ret;exact⟨rfl,fa.out⟩
open Go.Shelf
def iS {a b:Cl}:Ka a b=0↔a.y=b.y/\a.x=b.x/\a.q=b.q:=by
 unfold Ka
 split
 ·rename_i h;have:=mt Jf.2 h
  constructor
  ·intro h';exact absurd h' h
  ·rintro⟨h1,-⟩;exact absurd h1 this
 ·rename_i h;have h1:=Jf.1 (El.1 h)
  split
  ·rename_i h2;have:=mt Jf.2 h2
   constructor
   ·intro h';exact absurd h' h2
   ·rintro⟨-,h3,-⟩;exact absurd h3 this
  ·rename_i h2;have h3:=Jf.1 (El.1 h2);rw[Jf]
   constructor
   ·intro h4;exact⟨h1,h3,Gv⟩
   ·rintro⟨-,-,h4⟩;omega
def By6 (x y:PkE):ltOf Aj5 x y=decide (orI (Ka x.1.1 y.1.1) (Ka x.1.2 y.1.2)<0):=rfl
def Cg3:SWO (ltOf Aj5) where
 irrefl x:=by rw[By6,Rt,Zi,Jl,Jl];omega
 trans x y z h1 h2:=by rw[By6,decide_eq_true_iff,Zi,Jl,Jl,iS]at*;omega
 ntrans x y z h1 h2:=by rw[By6,Rt,Zi,Jl,Jl,iS]at*;omega
def Bk4 (w:Aj):(isAgg 329).run Dp w= .ok true w:=Gx
def Ca4 (w:Aj):(Go.sizeOf 329).run Dp w= .ok 6 w:=Gx
def xG {B:Option Cj} (l:List PkE) (w:Aj) (h:w.ownsRow O 329 6 (Ad B m c) m (l.flatMap pkV)) (hm:m<=1000000):
  Al Dp 204 #[Ad B m c,.func (.func 205) #[] #[]] w (Lm pkV Aj5 l O 329 6 m (Ad B m c) w):=
 Tq Tryz.laysSortPk 6 He Bk4 Ca4 pkV (λ_=>rfl) (λx v hv=>by
  simp[pkV,pkC]at hv;rcases hv with rfl|rfl|rfl|rfl|rfl|rfl<;>rfl) Aj5 Cg3 205 #[] (enters_of Tryz.func205 Gx rfl) l w h hm (λW' _ x y=>Ag4 x y W')
def clK (c:Cl):Ak:= .agg #[Aa Ab c.x,Aa Ab c.y,Aa Ac c.q]
def pkK (p:Cl×Cl):Ak:= .agg #[Aa Ab p.1.x,Aa Ab p.1.y,Aa Ac p.1.q,Aa Ab p.2.x,Aa Ab p.2.y,Aa Ac p.2.q]
def Cd6:Tryz.prog.underlying 329=Af (.array 2 90):=Gx
def Bh8:Tryz.prog.stoodInHeld 90=false:=Gx
def Cc6 (a b c:Int) (w:Aj):(part 3 #[Value.int .i64 a,b,Aa Ac c] 0).run Dp w= .ok (Aa Ab a) w:=Gx
def Cc7 (a b c:Int) (w:Aj):(part 3 #[Value.int .i64 a,b,Aa Ac c] 1).run Dp w= .ok (Aa Ab b) w:=Gx
def Cc8 (a b c:Int) (w:Aj):(part 5 #[Value.int .i64 a,b,Aa Ac c] 2).run Dp w= .ok (Aa Ac c) w:=Gx
def Ce1 (a b c a' b' c':Int) (w:Aj):(part 90 #[Value.int .i64 a,b,Aa Ac c,a',b',Aa Ac c'] 0).run Dp w= .ok (.agg #[a,b,Aa Ac c]) w:=Gx
def Ce2 (a b c a' b' c':Int) (w:Aj):(part 90 #[Value.int .i64 a,b,Aa Ac c,a',b',Aa Ac c'] 3).run Dp w= .ok (.agg #[a',b',Aa Ac c']) w:=Gx
def Bp2 (w:Aj):(Go.sizeOf 90).run Dp w= .ok 3 w:=Gx
def eE (p q:Cl) (w:Aj) (n:Nat):(Op.equalIn (n+1+1) 90 (clK p) (clK q)).run Dp w= .ok (decide (p=q)) w:=by
 obtain⟨a,b,c⟩:=p;obtain⟨a',b',c'⟩:=q;unfold Op.equalIn;simp only[Sem.run_bind,run_underlying Tryz.underlying90,Result.andThen_ok,clK,run_program,Bh8,Bool.false_eq_true,if_false];simp[Cc6,Cc7,Cc8,pN,zC];by_cases h0:a=a'<;>by_cases h1:b=b'<;>by_cases h2:c=c'<;>simp[h0,h1,h2]<;>omega
def Az3 (p q:Cl×Cl) (w:Aj):(Op.equal 329 (pkK p) (pkK q)).run Dp w= .ok (decide (p=q)) w:=by
 obtain⟨a,b⟩:=p;obtain⟨a',b'⟩:=q
 have h:∀n,(Op.equalIn (n+1+1+1) 329 (pkK (a,b)) (pkK (a',b'))).run Dp w= .ok (decide ((a,b)=(a',b'))) w:=by
  intro n;have e1:=eE a a' w n;have e2:=eE b b' w n;unfold clK at e1 e2;unfold Op.equalIn;simp only[Sem.run_bind,run_underlying Cd6,Result.andThen_ok,pkK,Bp2];simp[Std.Legacy.Range.forIn_eq_forIn_range',List.range',Ce1,Ce2,e1,e2];by_cases h0:a=a'<;>by_cases h1:b=b'<;>simp[h0,h1]
 exact h 9997
def dM:kI (κ:=Cl×Cl) 329 pkK where
 now:=⟨_,Cd6,λp q=>rfl⟩
 eq:=Az3
 check:=λb p w=>Gx
 bits:=λp=>by
  have h:∀n,Instr.sameBits (n+1+1) (pkK p) (pkK p)=true:=by intro n;simp[Instr.sameBits,pkK]
  exact h 9998
structure SmB where
 s:Sm
 p:Nat
 vp:Ak
 vl:Ak
 ve:Ak
def SmB.blks (x:SmB):List Nat:=x.p::(x.vp.ownBlock.toList++x.vl.ownBlock.toList++x.ve.ownBlock.toList)
def SmB.ok (O:Nat) (w:Aj) (x:SmB):Prop:=
 O<=x.p/\w.heap[x.p]? =Af (.cells (x.s.cells x.vp x.vl x.ve) 263 (0,0))/\
  w.ownsRow O 377 2 x.vp x.s.ps.length (Pw x.s.ps)/\w.ownsRow O 266 3 x.vl x.s.ls.length (Nl x.s.ls)/\w.ownsRow O 3 1 x.ve x.s.es.length (Ih x.s.es)
def Io {xs:List Ak} (h:w.ownsRow O e sz v n xs) (hb:∀g,v.ownBlock=Af g->w'.heap[g]? =w.heap[g]?):w'.ownsRow O e sz v n xs:=
 ⟨h.1,h.2.imp id λ⟨g,cap,cur,r1,r2,r3,r⟩=>⟨g,cap,cur,r1,r2,(hb g (by rw[r1];rfl)).trans r3,r⟩⟩
def SmB.ok.same {x:SmB} (h:x.ok O w) (hb:∀g∈x.blks,w'.heap[g]? =w.heap[g]?):x.ok O w':=by
 obtain⟨h0,h1,h2,h3,h4⟩:=h;refine⟨h0,(hb _ (by simp[SmB.blks])).trans h1,Io h2 λg hg=>hb g ?_,Io h3 λg hg=>hb g ?_,Io h4 λg hg=>hb g ?_⟩<;>simp[SmB.blks,hg]
def Oi (O:Nat) (w:Aj) (l:List SmB):Prop:=(∀x∈l,x.ok O w)/\(l.flatMap SmB.blks).Nodup
def Oi.same {l:List SmB} (h:Oi O w l) (hb:∀g∈l.flatMap SmB.blks,w'.heap[g]? =w.heap[g]?):Oi O w' l:=
 ⟨λx hx=>(h.1 x hx).same λg hg=>hb g (Ec.2 ⟨x,hx,hg⟩),h.2⟩
def Oi.change {l1 l2:List SmB} {x y:SmB} (h:Oi O w (l1++x::l2)) (hy:y.ok O w') (hb:∀g∈l1.flatMap SmB.blks++l2.flatMap SmB.blks,w'.heap[g]? =w.heap[g]?)
  (hn:y.blks.Nodup) (hf:∀g∈y.blks,g∈x.blks∨g∉l1.flatMap SmB.blks++l2.flatMap SmB.blks):Oi O w' (l1++y::l2):=by
 obtain⟨h1,h2⟩:=h
 constructor
 ·intro z hz;rcases Bl.1 hz with hz|hz
  ·exact(h1 z (by simp[hz])).same λg hg=>hb g (Gc _ (Ec.2 ⟨z,hz,hg⟩))
  ·rcases Bk.1 hz with rfl|hz
   ·exact hy
   ·exact(h1 z (by simp[hz])).same λg hg=>hb g (List.mem_append_right _ (Ec.2 ⟨z,hz,hg⟩))
 ·simp only[Bi,Bf]at h2⊢;rw[Bq]at h2⊢;obtain⟨a1,a2,a3⟩:=h2;rw[Bq]at a2;obtain⟨b1,b2,b3⟩:=a2
  have out1:∀g∈y.blks,g∉l1.flatMap SmB.blks:=λg hg fy=>by
   rcases hf g hg with hx|hx
   ·exact a3 g fy g (Gc _ hx) rfl
   ·exact hx (Gc _ fy)
  have out2:∀g∈y.blks,g∉l2.flatMap SmB.blks:=λg hg fy=>by
   rcases hf g hg with hx|hx
   ·exact b3 g hx g fy rfl
   ·exact hx (List.mem_append_right _ fy)
  refine⟨a1,Bq.2 ⟨hn,b2,λu hu v hv e=>out2 u hu (e▸hv)⟩,λu hu v hv e=>?_⟩;rcases Bl.1 hv with hv|hv
  ·exact out1 v hv (e▸hu)
  ·exact a3 u hu v (List.mem_append_right _ hv) e
def Oi.snoc {l:List SmB} {y:SmB} (h:Oi O w l) (hy:y.ok O w') (hb:∀g∈l.flatMap SmB.blks,w'.heap[g]? =w.heap[g]?)
  (hn:y.blks.Nodup) (hf:∀g∈y.blks,g∉l.flatMap SmB.blks):Oi O w' (l++[y]):=by
 constructor
 ·intro z hz;rcases Bl.1 hz with hz|hz
  ·exact(h.1 z hz).same λg hg=>hb g (Ec.2 ⟨z,hz,hg⟩)
  ·obtain rfl:=List.mem_singleton.1 hz;exact hy
 ·simp only[Bi,Bf,List.flatMap_nil,Ff];exact Bq.2 ⟨h.2,hn,λu hu v hv e=>hf v hv (e▸hu)⟩
def Ce3 (a b c d e f:Ak) (w:Aj):(Instr.index 283 (.agg #[a,b,c,d,e,f]) (Aa Ab 0)).run Dp w= .ok (.agg #[a,b]) w:=Gx
def Ce4 (a b c d e f:Ak) (w:Aj):(Instr.index 283 (.agg #[a,b,c,d,e,f]) (Aa Ab 1)).run Dp w= .ok (.agg #[c,d]) w:=Gx
def Ce5 (a b c d e f:Ak) (w:Aj):(Instr.index 283 (.agg #[a,b,c,d,e,f]) (Aa Ab 2)).run Dp w= .ok (.agg #[e,f]) w:=Gx
def gJ (k c x y:Int): -1<=Oy k c x y/\Oy k c x y<=1:=by
 unfold Oy;split
 ·decide
 ·split<;>decide
def bU (k c:Int) (e:Cl) (w:Aj) (hl:okL k c=true) (he:e.ok=true) (hQ:Qf w):
  Al Dp 114 #[.agg #[Aa Ac k,c],.agg #[Aa Ab e.x,Aa Ab e.y,Aa Ac e.q]] w (Gz (.tuple #[Aa Ab (Is k c e),Aa Ab 0]) w):=by
 obtain⟨R,hR⟩:=ey (Is k c e);rw[hR];have hk:=(Mu.1 hl).1;have UD:=λw hQ=>tH e w he hQ;unfold Cl.ok at he;obtain⟨c1,c2,c3,c4,c5⟩:=Jq.1 he;obtain⟨x,y,q⟩:=e;dsimp only at c1 c2 c3 c4 c5 UD⊢;unfold Is at hR;unfold eF at UD;dsimp only at hR UD;obtain⟨⟨o1,o2⟩,⟨o3,o4⟩,⟨o5,o6⟩,o7,o8⟩:=Ce7 q;obtain⟨⟨u1,u2⟩,h1⟩:=ey (Ue q);obtain⟨⟨v1,v2⟩,h2⟩:=ey (Uf q);rw[h1]at o1 o2 o3 o4 UD hR;rw[h2]at o5 o6 o7 o8 UD hR;dsimp only at o1 o2 o3 o4 o5 o6 o7 o8 UD hR
 have sd:∀a b:Int,-10000<=a->a<=10000->-10000<=b->b<=10000->gI k c a b=Oy k c a b:=λa b p1 p2 p3 p4=>by
  unfold gI;rw[hl,Wh.2 Gv];rfl
 obtain⟨p0,mu⟩:=ez (2*x+1);obtain⟨p1,qs⟩:=ez (2*y+1);obtain⟨p2,lv⟩:=ez (2*x+u1);obtain⟨p3,II⟩:=ez (2*y+u2);obtain⟨p4,RE⟩:=ez (2*x+v1);obtain⟨p5,IJ⟩:=ez (2*y+v2);rw[<-mu,<-qs,<-lv,<-II,<-RE,<-IJ]at hR UD;have sA:=sd p0 p1 Gv Gv Gv Gv;have sB:=sd p2 p3 Gv Gv Gv Gv;have sC:=sd p4 p5 Gv Gv Gv Gv;have bA:=gJ k c p0 p1;have bB:=gJ k c p2 p3;have bC:=gJ k c p4 p5;obtain⟨a,ha⟩:=ey (Oy k c p0 p1);obtain⟨b,hb⟩:=ey (Oy k c p2 p3);obtain⟨d,hd⟩:=ey (Oy k c p4 p5);rw[ha]at sA bA hR;rw[hb]at sB bB hR;rw[hd]at sC bC hR;have di:0<=k:=Gv;have SA:=Ah λw=>gK k c p0 p1 w di;have SB:=Ah λw=>gK k c p2 p3 w di;have SC:=Ah λw=>gK k c p4 p5 w di;rw[sA]at SA;rw[sB]at SB;rw[sC]at SC;have HCO:=Ah UD;have HL:=Ah hl;have HR:=Ah hR;have HQ:=Ah hQ;obtain⟨bA1,bA2⟩:=bA;obtain⟨bB1,bB2⟩:=bB;obtain⟨bC1,bC2⟩:=bC;have H:=((Bx.start w).new #[Aa Ac k,c] 48 rfl).new #[x,y,Aa Ac q] 90 (N:=w.heap.size+1) Gy;clear hl hQ hR UD sd mu qs lv II RE IJ sA sB sC ha hb hd h1 h2 he o1 o2 o3 o4 o5 o6 o7 o8;go_in;go_upto_region 1 with fail;generalize (w.alloc _).alloc _=W at H⊢;generalize w.heap.size=N at H⊢;obtain⟨⟨a0,a1,a2⟩,_⟩:=Hg (H.b 1);go_wp2_with fail;refine(HCO.out _ (HQ.out.below H.below)).mono ?_;rintro e w2 ⟨rfl,hb⟩;have H2:=H.call hb;clear a0 a1 a2 hb H;go_upto_region 2 with fail;obtain⟨G,hG⟩:=ez w2.heap.size;rw[<-hG];have H3:=H2.new #[p0,p1,p2,p3,p4,p5] 283 hG.symm;generalize w2.alloc _=W3 at H3⊢;clear hG;obtain⟨⟨a0,a1⟩,_⟩:=Hm (H3.b 0);go_wp2_with fail;refine(Jm k c _).mono ?_;rintro e w4 ⟨rfl,hb⟩;rw[HL.out,Lq];have H4:=H3.call hb;clear a0 a1 hb;obtain⟨⟨d0,d1,d2,d3,d4,d5⟩,_⟩:=cY (H4.b 2);go_wp2_with fail;clear d0 d1 d2 d3 d4 d5
 go_loopw [23] (λi wr=>∃n:Nat,n<=3/\i= Aa Ab n/\Bx w [(N,#[Aa Ac k,c],48),(N+1,#[x,y,Aa Ac q],90),(G,#[p0,p1,p2,p3,p4,p5],283)] wr/\(1<=n->a≠1)/\(2<=n->b≠1)/\(n=3->d≠1)) (λi _=>3-(intOf i).toNat)
 case atStart=>exact⟨0,Gv,rfl,H4,Gv,Gv,Gv⟩
 obtain⟨n,hn,rfl,Hr,g1,g2,g3⟩:=hrel;obtain⟨⟨a0,a1⟩,_⟩:=Hm (Hr.b 0);have ac:=Hr.lt 0 rfl;have i0:=Ce3;have i1:=Ce4;have i2:=Ce5;have h4:n=0∨n=1∨n=2∨n=3:=Gv;rcases h4 with rfl|rfl|rfl|rfl
 ·as_aux_lemma=>
   go_wp2_with fail;refine(SA.out _).mono ?_;rintro e w5 ⟨rfl,hb⟩;have H5:=(Hr.other _).call hb;by_cases hz:0<a
   ·have ER:a=1:=Gv;go_wp2_with fail
    go_ret2
    exact⟨by rw[<-HR.out,Hc (.inl ER)];rfl,H5.below⟩
   ·go_wp2;exact⟨⟨1,Gv,rfl,H5,Gv,Gv,Gv⟩,by simp[intOf]⟩
 ·as_aux_lemma=>
   have e1:=g1 Gv;go_wp2_with fail;refine(SB.out _).mono ?_;rintro e w5 ⟨rfl,hb⟩;have H5:=(Hr.other _).call hb;by_cases hz:0<b
   ·have ER:b=1:=Gv;go_wp2_with fail
    go_ret2
    exact⟨by rw[<-HR.out,Hc (.inr (.inl ER))];rfl,H5.below⟩
   ·go_wp2;exact⟨⟨2,Gv,rfl,H5,λ_=>e1,Gv,Gv⟩,by simp[intOf]⟩
 ·as_aux_lemma=>
   have e1:=g1 Gv;have e2:=g2 Gv;go_wp2_with fail;refine(SC.out _).mono ?_;rintro e w5 ⟨rfl,hb⟩;have H5:=(Hr.other _).call hb;by_cases hz:0<d
   ·have ER:d=1:=Gv;go_wp2_with fail
    go_ret2
    exact⟨by rw[<-HR.out,Hc (.inr (.inr ER))];rfl,H5.below⟩
   ·go_wp2;exact⟨⟨3,Gv,rfl,H5,λ_=>e1,λ_=>e2,Gv⟩,by simp[intOf]⟩
 ·as_aux_lemma=>
   have e1:=g1 Gv;have e2:=g2 Gv;have e3:=g3 rfl;go_wp2_with fail
   go_ret2
   exact⟨by rw[<-HR.out,Ha (by simp[e1,e2,e3])];rfl,Hr.below⟩
def Ia.setLow {l:List SkR} (h:Ia O w v l) (hg:g<O) (j:Nat) (u:Ak):Ia O (w.setCell ⟨g,j,Ae⟩ u) v l:=
 ⟨Jb h.1 hg j u,λx hx=>(h.2.1 x hx).same λg' wl=>Dq w ⟨g,j,Ae⟩ u g' (by show g'≠g;have:=((h.2.1 x hx).lt g' wl).1;omega),h.2.2⟩
def Two (O:Nat) (w:Aj) (v0 v1:Ak) (z0 z1:List SkR):Prop:=Ia O w v0 z0/\Ia O w v1 z1/\∀g,v0.ownBlock=Af g->v1.ownBlock=Af g->False
def Two.symm (h:Two O w v0 v1 z0 z1):Two O w v1 v0 z1 z0:=⟨h.2.1,h.1,λg a b=>h.2.2 g b a⟩
def Two.below (h:Two O w v0 v1 z0 z1) (hb:Below w.heap.size w w'):Two O w' v0 v1 z0 z1:=⟨h.1.below hb,h.2.1.below hb,h.2.2⟩
def Two.setLow (h:Two O w v0 v1 z0 z1) (hg:g<O) (j:Nat) (u:Ak):Two O (w.setCell ⟨g,j,Ae⟩ u) v0 v1 z0 z1:=⟨h.1.setLow hg j u,h.2.1.setLow hg j u,h.2.2⟩
def Ia.app (h:Ia O w v z) (hO:O<=w.heap.size) (hb:Below w.heap.size w W) (hx:Nj w.heap.size W x) (hl:z.length<=1000000):
  ∃A c A' c' w',v= Ad A z.length c/\(Builtin.append_ #[31,31] 31 #[Ad A z.length c,Ad (Af ⟨W.heap.size,0,Ae⟩) 1 1]).run Dp (W.alloc (.cells #[Aa Ab x.1.c.x,Aa Ab x.1.c.y,Aa Ac (x.1.c.q:Int),Ad x.2.1 x.1.ls.length x.2.2] 92))= .ok (Ad A' (z.length+1) c') w'/\
   Ia O w' (Ad A' (z.length+1) c') (z++[x])/\Below O W w'/\W.grownBy w' v.ownBlock/\O<=w'.heap.size/\(Value.ownBlock (Ad A' (z.length+1) c')=v.ownBlock∨∃g,Value.ownBlock (Ad A' (z.length+1) c')=Af g/\W.heap.size<=g):=by
 obtain⟨A,c,hv,-,-⟩:=Hy h.1;obtain⟨A',c',w',ah,ho,K0,hg,hM,-,-,un⟩:=Yi (sl:=31) Tryz.underlying31 Yz rfl He He W O z.length v _ (Hz h.1 (Am _) hb) (Bt hO hb.size) Gv (Jc x) (Lg x) (by intro u hu;simp[Jc]at hu;rcases hu with rfl|rfl|rfl|rfl<;>rfl);exact⟨A,c,A',c',w',hv,by rw[<-hv];exact ah,h.snoc hb hx ho hg hO,K0,hg,hM,un⟩
def Two.app (h:Two O w v0 v1 z0 z1) (hO:O<=w.heap.size) (hb:Below w.heap.size w W) (hx:Nj w.heap.size W x) (hl:z0.length<=1000000):
  ∃A c A' c' w',v0= Ad A z0.length c/\(Builtin.append_ #[31,31] 31 #[Ad A z0.length c,Ad (Af ⟨W.heap.size,0,Ae⟩) 1 1]).run Dp (W.alloc (.cells #[Aa Ab x.1.c.x,Aa Ab x.1.c.y,Aa Ac (x.1.c.q:Int),Ad x.2.1 x.1.ls.length x.2.2] 92))= .ok (Ad A' (z0.length+1) c') w'/\
   Two O w' (Ad A' (z0.length+1) c') v1 (z0++[x]) z1/\Below O W w'/\W.grownBy w' v0.ownBlock/\O<=w'.heap.size:=by
 obtain⟨A,c,A',c',w',hv,ah,h0,K0,hg,hM,un⟩:=h.1.app hO hb hx hl;have ac:=λg (hg:v1.ownBlock=Af g)=>(h.2.1.1.lt g hg).2;have hh:∀g,g<w.heap.size->v0.ownBlock≠Af g->w'.heap[g]? =w.heap[g]? :=λg h1 h2=>(hg.block g (Br h1 hb.size) (Ne.symm h2)).trans (hb.block g h1);refine⟨A,c,A',c',w',hv,ah,⟨h0,⟨Io h.2.1.1 λg nj=>hh g (ac g nj) λe=>h.2.2 g e nj,λy hy=>?_,h.2.1.2.2⟩,λg g1 g2=>?_⟩,K0,hg,hM⟩
 ·have hk:=h.2.1.2.1 y hy;exact hk.same λg nk=>hh g (hk.lt g nk).2.1 (Vj h.1.1 hk g nk)
 ·rcases un with e|⟨g',e,jz⟩
  ·exact h.2.2 g (e▸g1) g2
  ·rw[e]at g1;injection g1 with g1;subst g1;have:=ac _ g2;have:=hb.size;omega
def cQ (K C:Int) (s:Nat) (l:List Stk) (k:Nat) (h:k<l.length):Hx K C s (l.take (k+1))=if Is K C l[k].c=s then Hx K C s (l.take k)++[l[k]]else Hx K C s (l.take k):=by
 unfold Hx;rw[Bc h,List.filter_append];by_cases hs:Is K C l[k].c=s
 ·simp[hs]
 ·simp[hs]
def Bc2 (K C:Int) (c:Cl):Is K C c=0∨Is K C c=1:=by
 unfold Is
 split
 ·exact .inr rfl
 ·exact .inl rfl
def Ap2 (K C:Int) (l:List Stk) (w:Aj) (e:Ending) (w':Aj):Prop:=
 ∃A0 A1,e= .returned (.tuple #[Ad A0 (Hx K C 0 l).length (Hx K C 0 l).length,Ad A1 (Hx K C 1 l).length (Hx K C 1 l).length,Aa Ab 0])/\Ib w' A0 (Hx K C 0 l)/\Ib w' A1 (Hx K C 1 l)/\Below w.heap.size w w'
def qD (h:okL K C=true):Ur (K,C)=(ofL K C,0):=by unfold Ur;rw[Hc h]
def xK (K C:Int) (s:Nat) (l:List Stk):(Hx K C s l).length<=l.length:=List.length_filter_le _ _
def Ab9 (w:Aj) (N T O:Nat) (K C:Int) (l:List Stk) (k:Nat) (wr:Aj):Prop:=
 ∃v0 v1 z0 z1,Bx w [(N,#[Aa Ac K,C],48),(T,#[v0,v1],219)] wr/\Two O wr v0 v1 z0 z1/\z0.map (·.1)=Hx K C 0 (l.take k)/\z1.map (·.1)=Hx K C 1 (l.take k)/\O<=wr.heap.size
def jX (HX:Bx w [(N,#[Aa Ac K,C],48),(T,#[v0,v1],219)] wr) (h:Two O wr v0 v1 z0 z1) (hO:O<=wr.heap.size)
  (hN:N<O) (hT:T<O) (hw:w.heap.size<=O) (hb:Below wr.heap.size wr Y) (hx:Nj wr.heap.size Y x) (hl:z0.length<=1000000):
  ∃A c A' c' w8,v0= Ad A z0.length c/\(Builtin.append_ #[31,31] 31 #[Ad A z0.length c,Ad (Af ⟨Y.heap.size,0,Ae⟩) 1 1]).run Dp (Y.alloc (.cells #[Aa Ab x.1.c.x,Aa Ab x.1.c.y,Aa Ac (x.1.c.q:Int),Ad x.2.1 x.1.ls.length x.2.2] 92))= .ok (Ad A' (z0.length+1) c') w8/\
   (w8.frozen? ⟨T,0,Ae⟩=false/\w8.cell? ⟨T,0,Ae⟩=Af (Ad A z0.length c))/\(∀X,wr.heap.size<=X->X<Y.heap.size->w8.heap[X]? =Y.heap[X]? /\(w8.setCell ⟨T,0,Ae⟩ (Ad A' (z0.length+1) c')).heap[X]? =Y.heap[X]?)/\
   Bx w [(N,#[Aa Ac K,C],48),(T,#[Ad A' (z0.length+1) c',v1],219)] (w8.setCell ⟨T,0,Ae⟩ (Ad A' (z0.length+1) c'))/\Two O (w8.setCell ⟨T,0,Ae⟩ (Ad A' (z0.length+1) c')) (Ad A' (z0.length+1) c') v1 (z0++[x]) z1/\O<=(w8.setCell ⟨T,0,Ae⟩ (Ad A' (z0.length+1) c')).heap.size:=by
 obtain⟨A,c,A',c',w8,hv,ah,h8,og,GZ,hO8⟩:=h.app hO hb hx hl;have H8:=(HX.call hb).keepN (M:=O) (by simp;exact⟨hN,hT⟩) hw og;obtain⟨⟨t0,-⟩,f0,-⟩:=Hm (H8.b 1);have hX:∀X,wr.heap.size<=X->X<Y.heap.size->w8.heap[X]? =Y.heap[X]? :=λX h1 h2=>GZ.block X h2 λe=>by have:=(h.1.1.lt X e.symm).2;omega
 exact⟨A,c,A',c',w8,hv,ah,⟨f0,by rw[t0,hv]⟩,λX h1 h2=>⟨hX X h1 h2,(Dq w8 ⟨T,0,Ae⟩ _ X (by show X≠T;omega)).trans (hX X h1 h2)⟩,H8.set 1 0 rfl _,h8.setLow hT 0 _,by simpa using hO8⟩
def jY (HX:Bx w [(N,#[Aa Ac K,C],48),(T,#[v0,v1],219)] wr) (h:Two O wr v0 v1 z0 z1) (hO:O<=wr.heap.size)
  (hN:N<O) (hT:T<O) (hw:w.heap.size<=O) (hb:Below wr.heap.size wr Y) (hx:Nj wr.heap.size Y x) (hl:z1.length<=1000000):
  ∃A c A' c' w8,v1= Ad A z1.length c/\(Builtin.append_ #[31,31] 31 #[Ad A z1.length c,Ad (Af ⟨Y.heap.size,0,Ae⟩) 1 1]).run Dp (Y.alloc (.cells #[Aa Ab x.1.c.x,Aa Ab x.1.c.y,Aa Ac (x.1.c.q:Int),Ad x.2.1 x.1.ls.length x.2.2] 92))= .ok (Ad A' (z1.length+1) c') w8/\
   (w8.frozen? ⟨T,1,Ae⟩=false/\w8.cell? ⟨T,1,Ae⟩=Af (Ad A z1.length c))/\(∀X,wr.heap.size<=X->X<Y.heap.size->w8.heap[X]? =Y.heap[X]? /\(w8.setCell ⟨T,1,Ae⟩ (Ad A' (z1.length+1) c')).heap[X]? =Y.heap[X]?)/\
   Bx w [(N,#[Aa Ac K,C],48),(T,#[v0,Ad A' (z1.length+1) c'],219)] (w8.setCell ⟨T,1,Ae⟩ (Ad A' (z1.length+1) c'))/\Two O (w8.setCell ⟨T,1,Ae⟩ (Ad A' (z1.length+1) c')) v0 (Ad A' (z1.length+1) c') z0 (z1++[x])/\O<=(w8.setCell ⟨T,1,Ae⟩ (Ad A' (z1.length+1) c')).heap.size:=by
 obtain⟨A,c,A',c',w8,hv,ah,h8,og,GZ,hO8⟩:=h.symm.app hO hb hx hl;have H8:=(HX.call hb).keepN (M:=O) (by simp;exact⟨hN,hT⟩) hw og;obtain⟨⟨-,t0⟩,-,f0⟩:=Hm (H8.b 1);have hX:∀X,wr.heap.size<=X->X<Y.heap.size->w8.heap[X]? =Y.heap[X]? :=λX h1 h2=>GZ.block X h2 λe=>by have:=(h.2.1.1.lt X e.symm).2;omega
 exact⟨A,c,A',c',w8,hv,ah,⟨f0,by rw[t0,hv]⟩,λX h1 h2=>⟨hX X h1 h2,(Dq w8 ⟨T,1,Ae⟩ _ X (by show X≠T;omega)).trans (hX X h1 h2)⟩,H8.set 1 1 rfl _,(h8.setLow hT 1 _).symm,by simpa using hO8⟩
def Aa7 {k:Nat} {s:Nat} (h:z.map (·.1)=Hx K C s (l.take k)) (hl:l.length<=100000):z.length<=1000000:=by
 have:=congrArg List.length h;have h2:=xK K C s (l.take k);simp at this h2;omega
def Al9 (A:Option Cj) (l:List Stk) (n cc:Nat) (K C:Int) (w:Aj) (hn:n=l.length) (h:Ib w A l) (hl:n<=100000) (jd:∀x∈l,x.ls.length<=100000) (hL:okL K C=true) (hc:∀x∈l,x.c.ok=true) (hQ:Qf w):
  Al Dp 68 #[Ad A n cc,.agg #[Aa Ac K,C]] w (Ap2 K C l w):=by
 have WM:=Zz w (λw' hb=>h.below hb);have HN:=Ah hn;have xb:=Ah jd;have HSD:=Ah (λ(c:Cl) (gv:c.ok=true) (w':Aj) (hb:Below w.heap.size w w')=>bU K C c w' hL gv (hQ.below hb));have GH:=Ah hc;have hK:=(Mu.1 hL).1;have QY:=λw'=>Xu K C w' Gv;rw[qD hL]at QY;unfold mvR Mv.v at QY;dsimp only at QY;obtain⟨⟨mt,mx,my⟩,hm⟩:=ey (ofL K C);rw[hm]at QY;dsimp only at QY;have DY:=Ah QY;have H:=((Bx.start w).new #[Aa Ac K,C] 48 rfl).new #[Ad Ae 0 0,Ad Ae 0 0] 219 (N:=w.heap.size+1) Gy;clear hn h jd hL hc hQ hK QY hm;go_in;go_upto_region 2 with fail;obtain⟨N,ct⟩:=Tw w.heap.size;rw[<-ct.out]at H⊢;obtain⟨T,hT⟩:=ey (N+1);rw[hT]at H⊢;have n1:N≠T:=Gv;have n2:T≠N:=Gv;clear hT;generalize (w.alloc _).alloc _=W0 at H⊢;obtain⟨⟨a0,a1⟩,-⟩:=Hm (H.b 0);go_wp2_with fail;refine(DY.out _).mono ?_;rintro ee w1 ⟨rfl,hb⟩;have H1:=H.call hb;clear a0 a1 hb H DY;have H2:=H1.other (.cells #[Aa Ac (mt:Int),mx,my] 30);obtain⟨O,hO⟩:=ey w1.heap.size;have y_:N<O:=oHx (H1.lt 0 rfl);have hTO:T<O:=oHx (H1.lt 1 rfl);have hWO:w.heap.size<=O:=oHx H1.below.size;have h2s:O<=(w1.alloc (.cells #[Aa Ac (mt:Int),mx,my] 30)).heap.size:=by rw[<-hO];simp
 go_upto_region 5 with fail
 try rw[hO]
 generalize w1.alloc _=W2 at H2 h2s⊢;have fx:Hid (Ab9 w N T O K C l 0 W2):=Ah ⟨_,_,[],[],H2,⟨Ia.nil _ _,Ia.nil _ _,λg h=>by cases h⟩,rfl,rfl,h2s⟩;have KZ:=Ah y_;have MO:=Ah hTO;have WT:=Ah hWO;clear h2s H1 H2 hO y_ hTO hWO;go_wp2
 go_loopw [23] (λPH wr=>∃k:Nat,k<=n/\PH= Aa Ab k/\Hid (Ab9 w N T O K C l k wr)) (λPH _=>n-(intOf PH).toNat)
 case atStart=>exact⟨0,Gv,rfl,fx⟩
 obtain⟨k,hk,rfl,HZ⟩:=hrel;clear fx;obtain⟨v0,v1,z0,z1,HX,HT,dp,ap,BK⟩:=HZ.out;clear HZ;by_cases ac:k<n
 ·have be:k<l.length:=oHx HN.out;have q0:(k:Int)<(n:Int):=Gv;obtain⟨bb,o',A',c',TD,cj,⟨d0,d1,d2,d3⟩,du,hle,jb,ba⟩:=(WM.out _ HX.below).get k be;have br:=Ay be;have dq:=xb.out l[k] br;have ud:=cQ K C 0 l k be;have gr:=cQ K C 1 l k be;have yk:=HSD.out l[k].c (GH.out l[k] br);have AA:=Bc2 K C l[k].c;obtain⟨⟨⟨x0,x1,x2⟩,ids⟩,hx⟩:∃z,l[k]=z:=⟨_,rfl⟩;simp only[hx]at d0 d1 d2 d3 dq ba du hle ud gr yk AA;obtain⟨e9,hE9⟩:=ey (Is K C (⟨x0,x1,x2⟩:Cl));rw[hE9]at ud gr yk AA;obtain⟨m,hm⟩:=ey ids.length;rw[hm]at d3 dq ba du hle;have gj:=Ah hm;have SU:=Ah ud;have zb:=Ah gr;have EF:=Ah yk;have CI:=Zz wr (λw' hb=>Rb ⟨x0,x1,x2⟩ A' ids m c' w' hm.symm du (ba.below hb) Gv);obtain⟨X,hX⟩:=ey wr.heap.size;have H:=HX.new #[x0,x1,Aa Ac x2,Ad A' m c'] 92 hX;have cg:=(Ag wr.heap.size wr).alloc (Am _) (.cells #[x0,x1,Aa Ac x2,Ad A' m c'] 92);have uj:=Ah dp;have pj:=Ah ap;have WQ:=Ah HT;have HXW:=Ah HX.below;have HXH:=Ah HX;have EA:=Ah BK;subst TD;clear ud gr yk ba du hle hx hm br hE9 dp ap HT HX BK;go_upto_region 8 with fail
  try rw[hX]
  generalize wr.alloc _=W5 at H cg⊢;clear d0 d1 d2 d3;obtain⟨⟨e0,e1,e2,e3⟩,-⟩:=Jh (H.b 2);obtain⟨⟨a0,a1⟩,-⟩:=Hm (H.b 0);go_wp2_with fail;refine(EF.out _ (Up HXW.out cg)).mono ?_;rintro ee w6 ⟨rfl,hb⟩;have H6:=H.call hb;have bc:=Up cg hb;clear e0 e1 e2 e3 a0 a1 hb H EF cg;obtain⟨⟨e0,e1,e2,e3⟩,-⟩:=Jh (H6.b 2);obtain⟨⟨t0,t1⟩,-⟩:=Hm (H6.b 1);rcases AA with rfl|rfl
  ·go_upto_region 11 with fail;obtain⟨Av,cv,U9,-,-⟩:=Hy WQ.out.1.1;subst U9;have ld:=Aa7 uj.out (oHx HN.out);obtain⟨mz,QZ⟩:=ey z0.length;rw[QZ]at t0 ld;have NB:X<w6.heap.size:=H6.lt 2 rfl;obtain⟨S,an,HSO⟩:=Og λW'=>W'.cell? ⟨X,0,Ae⟩=Af (Aa Ab x0)/\W'.cell? ⟨X,1,Ae⟩=Af (Aa Ab x1)/\W'.cell? ⟨X,2,Ae⟩=Af (Aa Ac x2)/\W'.cell? ⟨X,3,Ae⟩=Af (Ad A' m c')
   have ag:Hid (∀W',W'.heap[X]? =w6.heap[X]? ->S W'):=Ah λW' h=>by
    have hc:∀j v,w6.cell? ⟨X,j,Ae⟩=Af v->W'.cell? ⟨X,j,Ae⟩=Af v:=λj v hv=>by
     unfold World.cell? at hv⊢;rw[h];exact hv
    subst an;exact⟨hc _ _ e0,hc _ _ e1,hc _ _ e2,hc _ _ e3⟩
   clear e0 e1 e2 e3 an;refine Ao (S:=S) Gx (ag.out _ rfl) (λhS=>?_);have dc:Below wr.heap.size wr w6.drew:=bc.drew;have LN:w6.drew.heap=w6.heap:=rfl;have iu:w6.drew.cell? ⟨T,0,Ae⟩=Af (Ad Av mz cv):=t0;have GV:X<w6.drew.heap.size:=NB;rw[<-LN]at ag;clear LN t0 t1 H6 bc NB;generalize w6.drew=Y at hS dc iu GV ag⊢;have dj:Hid (∀(Y2 W':Aj),Below Y.heap.size Y Y2->W'.heap[X]? =Y2.heap[X]? ->S W'):=Ah λY2 W' hb h=>ag.out _ (h.trans (hb.block X GV));have ex:=Ah dc;have SJ:=Ah QZ;have JO:wr.heap.size<=X:=Gv;have PY:=Ah JO;have WU:=Ah GV;have HXQ:=Ah hX;clear dc QZ ag hX JO GV;refine Hk 0 1 2 4 ?_;refine Ap (rs:=[3,5]) Gx Gy (Aq rfl (λK hK=>?_) (Aq rfl (λK hK=>?_) Ar))
   ·go_simp;refine hK.o hS (λhS=>?_);clear hK K iu;refine rdy 5 (λK hK=>?_);go_simp;refine(CI.out _ ex.out).mono ?_;rintro ee Y2 ⟨A9,rfl,sr,bn,bg⟩;dsimp only;rw[gj.out]at sr bn⊢;refine hK.o (dj.out Y2 _ bg rfl) (λhS=>?_);clear hK K;have jp:Nj wr.heap.size Y2 (⟨⟨x0,x1,x2⟩,ids⟩,(A9,m)):=⟨by show AOk A9 ids.length m;rw[gj.out];exact sr,by show ids.length<=m;rw[gj.out];exact Am _,by show m<=maxLen;unfold maxLen;omega,by show Jk Y2 _ _ _ A9 ids.length _;rw[gj.out];exact bn.base ex.out.size⟩;have ly:=Up ex.out bg;obtain⟨Bv,dv,LY,MP,w8,hv,ah,⟨f8,k8⟩,xm,EI,EH,um⟩:=jX HXH.out WQ.out EA.out KZ.out MO.out WT.out ly jp (by rw[SJ.out];exact ld);have gu:X<Y2.heap.size:=by have:=bg.size;have:=WU.out;omega
    obtain⟨BI,xe⟩:=xm X PY.out gu;simp only[gj.out,SJ.out]at ah f8 k8 xe EI EH um hv;have pz:=Ah (dj.out Y2 _ bg BI);have ui:=Ah (dj.out Y2 _ bg xe);have lx:=Ah (dj.out Y2 _ bg (Eh Y2 (.cells #[x0,x1,Aa Ac x2,Ad A9 m m] 92) X gu));have bf:=Ah ah;have aw:Hid (Ab9 w N T O K C l (k+1) (w8.setCell ⟨T,0,Ae⟩ (Ad LY (mz+1) MP))):=Ah ⟨_,_,_,_,EI,EH,by simpa[SU.out]using uj.out,by simpa[zb.out]using pj.out,um⟩;clear jp ly ah xm EI EH um BI xe gu bg bn sr;obtain⟨rfl,rfl⟩:Av=Bv/\cv=dv:=by simpa using hv
    refine rdy 6 (λK hK=>?_);go_simp;refine hK.o lx.out (λhS=>?_);clear hK K;refine rdy 7 (λK hK=>?_);refine Jv (by simp[Dz]) (.tmp 39) (.tmp 42) 31 rfl _ _ Qo Qo _ _ bf.out ?_;refine hK.o pz.out (λhS=>?_);clear hK K;refine Ke 8 ?_;refine rdy 9 (λK hK=>?_);go_simp;refine hK.o ui.out (λhS=>?_);clear hK K hS;refine An Gx ?_ _;clear bf pz ui lx HSO dj f8 k8 ex CI;go_wp2;exact⟨⟨k+1,Gv,by go_num,aw⟩,by simp[intOf];omega⟩
   ·go_simp;refine(CI.out _ ex.out).mono ?_;rintro ee Y2 ⟨A9,rfl,sr,bn,bg⟩;dsimp only;rw[gj.out]at sr bn⊢;refine hK.o (dj.out Y2 _ bg rfl) (λhS=>?_);clear hK K;have iu:=Gw bg iu;have jp:Nj wr.heap.size Y2 (⟨⟨x0,x1,x2⟩,ids⟩,(A9,m)):=⟨by show AOk A9 ids.length m;rw[gj.out];exact sr,by show ids.length<=m;rw[gj.out];exact Am _,by show m<=maxLen;unfold maxLen;omega,by show Jk Y2 _ _ _ A9 ids.length _;rw[gj.out];exact bn.base ex.out.size⟩;have ly:=Up ex.out bg;obtain⟨Bv,dv,LY,MP,w8,hv,ah,⟨f8,k8⟩,xm,EI,EH,um⟩:=jX HXH.out WQ.out EA.out KZ.out MO.out WT.out ly jp (by rw[SJ.out];exact ld);have gu:X<Y2.heap.size:=by have:=bg.size;have:=WU.out;omega
    obtain⟨BI,xe⟩:=xm X PY.out gu;simp only[gj.out,SJ.out]at ah f8 k8 xe EI EH um hv;have pz:=Ah (dj.out Y2 _ bg BI);have ui:=Ah (dj.out Y2 _ bg xe);have lx:=Ah (dj.out Y2 _ bg (Eh Y2 (.cells #[x0,x1,Aa Ac x2,Ad A9 m m] 92) X gu));have bf:=Ah ah;have aw:Hid (Ab9 w N T O K C l (k+1) (w8.setCell ⟨T,0,Ae⟩ (Ad LY (mz+1) MP))):=Ah ⟨_,_,_,_,EI,EH,by simpa[SU.out]using uj.out,by simpa[zb.out]using pj.out,um⟩;clear jp ly ah xm EI EH um BI xe gu bg bn sr;obtain⟨rfl,rfl⟩:Av=Bv/\cv=dv:=by simpa using hv
    refine Ap (rs:=[3,6]) Gx Gy (Aq rfl (λK hK=>?_) (Aq rfl (λK hK=>?_) Ar));go_simp;refine hK.o hS (λhS=>?_);clear hK K iu;refine rdy 6 (λK hK=>?_);go_simp;refine hK.o lx.out (λhS=>?_);clear hK K;rotate_left;have iu:=Gw ((Ag Y2.heap.size Y2).alloc (Am _) (.cells #[x0,x1,Aa Ac x2,Ad A9 m m] 92)) iu;go_simp;refine hK.o lx.out (λhS=>?_);clear hK K;refine rdy 3 (λK hK=>?_);go_simp;refine hK.o hS (λhS=>?_);clear hK K iu
    all_goals
     refine rdy 7 (λK hK=>?_);refine Jv (by simp[Dz]) (.tmp 39) (.tmp 42) 31 rfl _ _ Qo Qo _ _ bf.out ?_;refine hK.o pz.out (λhS=>?_);clear hK K;refine Ke 8 ?_;refine rdy 9 (λK hK=>?_);go_simp;refine hK.o ui.out (λhS=>?_);clear hK K hS;refine An Gx ?_ _;clear bf pz ui lx HSO dj f8 k8 ex CI;go_wp2;exact⟨⟨k+1,Gv,by go_num,aw⟩,by simp[intOf];omega⟩
  ·go_upto_region 11 with fail;obtain⟨Av,cv,U9,-,-⟩:=Hy WQ.out.2.1.1;subst U9;have ld:=Aa7 pj.out (oHx HN.out);obtain⟨mz,QZ⟩:=ey z1.length;rw[QZ]at t1 ld;have NB:X<w6.heap.size:=H6.lt 2 rfl;obtain⟨S,an,HSO⟩:=Og λW'=>W'.cell? ⟨X,0,Ae⟩=Af (Aa Ab x0)/\W'.cell? ⟨X,1,Ae⟩=Af (Aa Ab x1)/\W'.cell? ⟨X,2,Ae⟩=Af (Aa Ac x2)/\W'.cell? ⟨X,3,Ae⟩=Af (Ad A' m c')
   have ag:Hid (∀W',W'.heap[X]? =w6.heap[X]? ->S W'):=Ah λW' h=>by
    have hc:∀j v,w6.cell? ⟨X,j,Ae⟩=Af v->W'.cell? ⟨X,j,Ae⟩=Af v:=λj v hv=>by
     unfold World.cell? at hv⊢;rw[h];exact hv
    subst an;exact⟨hc _ _ e0,hc _ _ e1,hc _ _ e2,hc _ _ e3⟩
   clear e0 e1 e2 e3 an;refine Ao (S:=S) Gx (ag.out _ rfl) (λhS=>?_);have dc:Below wr.heap.size wr w6.drew:=bc.drew;have LN:w6.drew.heap=w6.heap:=rfl;have iu:w6.drew.cell? ⟨T,1,Ae⟩=Af (Ad Av mz cv):=t1;have GV:X<w6.drew.heap.size:=NB;rw[<-LN]at ag;clear LN t0 t1 H6 bc NB;generalize w6.drew=Y at hS dc iu GV ag⊢;have dj:Hid (∀(Y2 W':Aj),Below Y.heap.size Y Y2->W'.heap[X]? =Y2.heap[X]? ->S W'):=Ah λY2 W' hb h=>ag.out _ (h.trans (hb.block X GV));have ex:=Ah dc;have SJ:=Ah QZ;have JO:wr.heap.size<=X:=Gv;have PY:=Ah JO;have WU:=Ah GV;have HXQ:=Ah hX;clear dc QZ ag hX JO GV;refine Hk 0 1 2 4 ?_;refine Ap (rs:=[3,5]) Gx Gy (Aq rfl (λK hK=>?_) (Aq rfl (λK hK=>?_) Ar))
   ·go_simp;refine hK.o hS (λhS=>?_);clear hK K iu;refine rdy 5 (λK hK=>?_);go_simp;refine(CI.out _ ex.out).mono ?_;rintro ee Y2 ⟨A9,rfl,sr,bn,bg⟩;dsimp only;rw[gj.out]at sr bn⊢;refine hK.o (dj.out Y2 _ bg rfl) (λhS=>?_);clear hK K;have jp:Nj wr.heap.size Y2 (⟨⟨x0,x1,x2⟩,ids⟩,(A9,m)):=⟨by show AOk A9 ids.length m;rw[gj.out];exact sr,by show ids.length<=m;rw[gj.out];exact Am _,by show m<=maxLen;unfold maxLen;omega,by show Jk Y2 _ _ _ A9 ids.length _;rw[gj.out];exact bn.base ex.out.size⟩;have ly:=Up ex.out bg;obtain⟨Bv,dv,LY,MP,w8,hv,ah,⟨f8,k8⟩,xm,EI,EH,um⟩:=jY HXH.out WQ.out EA.out KZ.out MO.out WT.out ly jp (by rw[SJ.out];exact ld);have gu:X<Y2.heap.size:=by have:=bg.size;have:=WU.out;omega
    obtain⟨BI,xe⟩:=xm X PY.out gu;simp only[gj.out,SJ.out]at ah f8 k8 xe EI EH um hv;have pz:=Ah (dj.out Y2 _ bg BI);have ui:=Ah (dj.out Y2 _ bg xe);have lx:=Ah (dj.out Y2 _ bg (Eh Y2 (.cells #[x0,x1,Aa Ac x2,Ad A9 m m] 92) X gu));have bf:=Ah ah;have aw:Hid (Ab9 w N T O K C l (k+1) (w8.setCell ⟨T,1,Ae⟩ (Ad LY (mz+1) MP))):=Ah ⟨_,_,_,_,EI,EH,by simpa[SU.out]using uj.out,by simpa[zb.out]using pj.out,um⟩;clear jp ly ah xm EI EH um BI xe gu bg bn sr;obtain⟨rfl,rfl⟩:Av=Bv/\cv=dv:=by simpa using hv
    refine rdy 6 (λK hK=>?_);go_simp;refine hK.o lx.out (λhS=>?_);clear hK K;refine rdy 7 (λK hK=>?_);refine Jv (by simp[Dz]) (.tmp 39) (.tmp 42) 31 rfl _ _ Qo Qo _ _ bf.out ?_;refine hK.o pz.out (λhS=>?_);clear hK K;refine Ke 8 ?_;refine rdy 9 (λK hK=>?_);go_simp;refine hK.o ui.out (λhS=>?_);clear hK K hS;refine An Gx ?_ _;clear bf pz ui lx HSO dj f8 k8 ex CI;go_wp2;exact⟨⟨k+1,Gv,by go_num,aw⟩,by simp[intOf];omega⟩
   ·go_simp;refine(CI.out _ ex.out).mono ?_;rintro ee Y2 ⟨A9,rfl,sr,bn,bg⟩;dsimp only;rw[gj.out]at sr bn⊢;refine hK.o (dj.out Y2 _ bg rfl) (λhS=>?_);clear hK K;have iu:=Gw bg iu;have jp:Nj wr.heap.size Y2 (⟨⟨x0,x1,x2⟩,ids⟩,(A9,m)):=⟨by show AOk A9 ids.length m;rw[gj.out];exact sr,by show ids.length<=m;rw[gj.out];exact Am _,by show m<=maxLen;unfold maxLen;omega,by show Jk Y2 _ _ _ A9 ids.length _;rw[gj.out];exact bn.base ex.out.size⟩;have ly:=Up ex.out bg;obtain⟨Bv,dv,LY,MP,w8,hv,ah,⟨f8,k8⟩,xm,EI,EH,um⟩:=jY HXH.out WQ.out EA.out KZ.out MO.out WT.out ly jp (by rw[SJ.out];exact ld);have gu:X<Y2.heap.size:=by have:=bg.size;have:=WU.out;omega
    obtain⟨BI,xe⟩:=xm X PY.out gu;simp only[gj.out,SJ.out]at ah f8 k8 xe EI EH um hv;have pz:=Ah (dj.out Y2 _ bg BI);have ui:=Ah (dj.out Y2 _ bg xe);have lx:=Ah (dj.out Y2 _ bg (Eh Y2 (.cells #[x0,x1,Aa Ac x2,Ad A9 m m] 92) X gu));have bf:=Ah ah;have aw:Hid (Ab9 w N T O K C l (k+1) (w8.setCell ⟨T,1,Ae⟩ (Ad LY (mz+1) MP))):=Ah ⟨_,_,_,_,EI,EH,by simpa[SU.out]using uj.out,by simpa[zb.out]using pj.out,um⟩;clear jp ly ah xm EI EH um BI xe gu bg bn sr;obtain⟨rfl,rfl⟩:Av=Bv/\cv=dv:=by simpa using hv
    refine Ap (rs:=[3,6]) Gx Gy (Aq rfl (λK hK=>?_) (Aq rfl (λK hK=>?_) Ar));go_simp;refine hK.o hS (λhS=>?_);clear hK K iu;refine rdy 6 (λK hK=>?_);go_simp;refine hK.o lx.out (λhS=>?_);clear hK K;rotate_left;have iu:=Gw ((Ag Y2.heap.size Y2).alloc (Am _) (.cells #[x0,x1,Aa Ac x2,Ad A9 m m] 92)) iu;go_simp;refine hK.o lx.out (λhS=>?_);clear hK K;refine rdy 3 (λK hK=>?_);go_simp;refine hK.o hS (λhS=>?_);clear hK K iu
    all_goals
     refine rdy 7 (λK hK=>?_);refine Jv (by simp[Dz]) (.tmp 39) (.tmp 42) 31 rfl _ _ Qo Qo _ _ bf.out ?_;refine hK.o pz.out (λhS=>?_);clear hK K;refine Ke 8 ?_;refine rdy 9 (λK hK=>?_);go_simp;refine hK.o ui.out (λhS=>?_);clear hK K hS;refine An Gx ?_ _;clear bf pz ui lx HSO dj f8 k8 ex CI;go_wp2;exact⟨⟨k+1,Gv,by go_num,aw⟩,by simp[intOf];omega⟩
 ·obtain rfl:k=n:=Gv;have q0:¬(k:Int)<(k:Int):=Gv;have ht:l.take k=l:=Bg (oHx HN.out);rw[ht]at dp ap;obtain⟨A0,c0,gq,h01,h02⟩:=Hy HT.1.1;obtain⟨A1,c1,lw,h11,h12⟩:=Hy HT.2.1.1;subst gq lw;have ud:=HT.1.stks;have gr:=HT.2.1.stks;have JV:z0.length=(Hx K C 0 l).length:=by rw[<-dp,Bp]
  have ig:z1.length=(Hx K C 1 l).length:=by rw[<-ap,Bp]
  rw[dp]at ud;rw[ap]at gr;rw[JV]at h01 HX;rw[ig]at h11 HX;obtain⟨⟨t0,t1⟩,-⟩:=Hm (HX.b 1);obtain⟨m0,JX⟩:=ey ((Hx K C 0 l).length);obtain⟨m1,pm⟩:=ey ((Hx K C 1 l).length);have aw:Hid (∀w',Below wr.heap.size wr w'->Ap2 K C l w (.returned (.tuple #[Ad A0 m0 m0,Ad A1 m1 m1,Aa Ab 0])) w'):=Ah λw' hb=>⟨A0,A1,by rw[JX,pm],ud.below hb,gr.below hb,Up HX.below hb⟩;rw[JX]at h01 t0;rw[pm]at h11 t1;have C0:=Ah (λw'=>kV A0 m0 c0 w' h01 h02);have C1:=Ah (λw'=>kV A1 m1 c1 w' h11 h12);clear dp ap ht HT HX ud gr JV ig h01 h02 h11 h12 JX pm BK;go_upto_region 13 with fail;obtain⟨S,an,HSO⟩:=Og λW'=>W'.cell? ⟨T,0,Ae⟩=Af (Ad A0 m0 c0)/\W'.cell? ⟨T,1,Ae⟩=Af (Ad A1 m1 c1)
  have ag:Hid (∀W',Below wr.heap.size wr W'->S W'):=Ah λW' h=>by
   subst an;exact⟨Gw h t0,Gw h t1⟩
  refine Ao (S:=S) Gx (ag.out _ (Ag _ _).drew) (λhS=>?_);have hb:Below wr.heap.size wr wr.drew:=(Ag _ _).drew;clear t0 t1 an;generalize wr.drew=Y at hS hb⊢;refine Hk 0 1 3 4 ?_;refine rdy 2 (λK hK=>?_);go_simp;refine(C0.out _).mono ?_;rintro e X1 ⟨rfl,ad⟩;have hb:=Up hb ad;refine hK.o (ag.out _ hb) (λhS=>?_);clear hK K ad;refine rdy 5 (λK hK=>?_);go_simp;refine(C1.out _).mono ?_;rintro e X2 ⟨rfl,ad⟩;have hb:=Up hb ad;refine hK.o (ag.out _ hb) (λhS=>?_);clear hK K ad;refine Oe 6 7 8 ?_;refine An Gx ?_ _;go_wp2_with fail;refine Ai (v:= .tuple #[Ad A0 m0 m0,Ad A1 m1 m1,Aa Ab 0]) (by simp[results,Tryz.results68,go_sem]) rfl ?_;exact aw.out _ hb
def Ai8 {g base n c:Nat} {e:Ck} {cs:Array Ak} (hb:base<=g) (hg:w.heap[g]? =Af (.cells cs e (0,0))) (_hn:n<=c) (hc:c<=maxLen) (AV:cs.size=c*sz):w.ownsRow base e sz (Ad (Af ⟨g,0,Ae⟩) 0 c) 0 []:=
 ⟨Gy,.inr ⟨g,c,cs,rfl,hb,hg,Gv,hc,AV,Gy⟩⟩
def oX (n:Nat) (w:Aj) (hn:n<=1000000):
  Al Dp 164 #[Ad Ae 0 0,n] w (Nt 92 4 0 [] w):=by
 obtain⟨i0,ep,dp,ap,bw⟩:=info_parts Yz;go_in;by_cases h0:n=0
 ·subst h0;go_wp2;go_ret;exact⟨_,rfl,World.ownsRow_nil _ _ _ _,Ag _ _⟩
 ·have hr:=Lib.run_append_nil_zeros (P:=Dp) w 31 3 31 92 i0 _ .i64 .i64 Tryz.underlying31 Tryz.underlying3 ep dp n Gv Gv Gv (by rw[bw];omega);have jz:=grownCap_ge w n 0 92;have jb:=grownCap_le_maxLen w n 0 92 (by simp[maxLen];omega);obtain⟨C,hC⟩:=ey (grownCap w n 0 92);rw[hC]at hr jz jb;have HR:=Ah hr;have oc:(0:Int)<(n:Int):=Gv;unfold maxLen at jb;clear hr hC;go_wp2_with (at_builtin;refine As _ rfl _ _ _ _ rfl _ _ rfl rfl _ _ HR.out ?_);go_wp2;go_ret;refine⟨_,rfl,Ai8 (cs:=Gn (Value.agg #[Aa Ab 0,Aa Ab 0,Aa Ac 0,Ad Ae 0 0]).cells n++Gn (Value.agg #[Aa Ab 0,Aa Ab 0,Aa Ac 0,Ad Ae 0 0]).cells (C-n)) (n:=0) (Am _) (Ca w.drew _) (Gm _) (by unfold maxLen;exact jb) ?_,(Ag _ _).drew.alloc (Am _) _⟩;rw[Array.size_append,size_zeroCells,size_zeroCells];simp[Value.cells];omega
def Ao1 (l:List Stk) (w:Aj) (e:Ending) (w':Aj):Prop:=
 ∃A c,e= .returned (Ad A l.length c)/\Ib w' A l/\Below w.heap.size w w'
def Bd2:∀u∈Jc x,u.oneCell'=true:=by
 intro u hu;simp[Jc]at hu;rcases hu with rfl|rfl|rfl|rfl<;>rfl
def gO (l:List SkR):∀u∈l.flatMap Jc,u.oneCell'=true:=by
 intro u hu;obtain⟨x,-,hx⟩:=Ec.1 hu;exact Bd2 u hx
def Ib.cat (e1:gr.length=l1.length) (e2:jl.length=l2.length)
  (g1:∀(i:Nat) (h:i<l1.length) (h':i<gr.length),AOk gr[i].1 l1[i].ls.length gr[i].2/\l1[i].ls.length<=gr[i].2/\gr[i].2<=maxLen/\Rd w1 gr[i].1 1 l1[i].ls.length (Ih l1[i].ls))
  (g2:∀(i:Nat) (h:i<l2.length) (h':i<jl.length),AOk jl[i].1 l2[i].ls.length jl[i].2/\l2[i].ls.length<=jl[i].2/\jl[i].2<=maxLen/\Rd w2 jl[i].1 1 l2[i].ls.length (Ih l2[i].ls))
  (b1:Below w1.heap.size w1 w3) (b2:Below w2.heap.size w2 w3) (h:Rd w3 A3 4 (l1++l2).length ((l1.zip gr).flatMap Jc++(l2.zip jl).flatMap Jc)):Ib w3 A3 (l1++l2):=by
 refine⟨gr++jl,by simp[e1,e2],by rw[List.zip_append Gv,Bi];exact h,λi hi uo=>?_⟩;by_cases h1:i<l1.length
 ·rw[List.getElem_append_left Gv,List.getElem_append_left h1];obtain⟨a,b,c,d⟩:=g1 i h1 Gv;exact⟨a,b,c,d.below b1⟩
 ·rw[List.getElem_append_right Gv,List.getElem_append_right Gv];simp only[e1];simp at hi uo;obtain⟨a,b,c,d⟩:=g2 (i-l1.length) Gv Gv;exact⟨a,b,c,d.below b2⟩
def gW (sb so:Nat) (A1 A2:Option Cj) (l1 l2:List Stk) (n1 n2 c1 c2 cc:Nat) (w:Aj) (hs:sb<w.heap.size) (h1:w.cell? ⟨sb,so,Ae⟩=Af (Ad A1 n1 c1)) (h2:w.cell? ⟨sb,so+1,Ae⟩=Af (Ad A2 n2 c2))
  (r1:Ib w A1 l1) (r2:Ib w A2 l2) (e1:n1=l1.length) (e2:n2=l2.length) (b1:n1<=100000) (b2:n2<=100000):
  Al Dp 106 #[Ad (Af ⟨sb,so,Ae⟩) 2 cc] w (Ao1 (l1++l2) w):=by
 obtain⟨i0,ep,dp,ap,bw⟩:=info_parts Yz;obtain⟨gr,f1,q1,g1⟩:=r1;obtain⟨jl,f2,q2,g2⟩:=r2;rw[<-e1]at q1;rw[<-e2]at q2
 have a1:A1=Ae->n1=0:=λh=>by
  subst h;by_cases h0:0<n1
  ·obtain⟨_,_,e,-⟩:=q1.2 h0
   cases e
  ·omega
 have a2:A2=Ae->n2=0:=λh=>by
  subst h;by_cases h0:0<n2
  ·obtain⟨_,_,e,-⟩:=q2.2 h0
   cases e
  ·omega
 have aw:Hid (∀v w3,w3.ownsRow w.heap.size 92 4 v (n1+n2) ((l1.zip gr).flatMap Jc++(l2.zip jl).flatMap Jc)->Below w.heap.size w w3->Ao1 (l1++l2) w (.returned v) w3):=Ah λv w3 ho hb=>by
  obtain⟨A,c,rfl,-,-⟩:=Hy ho;have hl:(l1++l2).length=n1+n2:=by rw[Bh,e1,e2]
  exact⟨A,c,by rw[hl],Ib.cat f1 f2 g1 g2 hb hb (by rw[hl];exact Rd.of_own ho),hb⟩
 have R1:=Ah q1;have R2:=Ah q2;have A1':=Ah a1;have A2':=Ah a2;clear q1 q2 a1 a2 g1 g2 f1 f2 e1 e2;have O1:=Ah (gO (l1.zip gr));have O2:=Ah (gO (l2.zip jl));generalize (l1.zip gr).flatMap Jc=X1 at R1 aw O1;generalize (l2.zip jl).flatMap Jc=X2 at R2 aw O2;go_in;go_wp2_with fail;refine wp_loop_rounds 3 ?_;rw[rounds_succ];go_wp2_with fail;rw[rounds_succ];go_wp2_with fail;rw[rounds_succ];go_wp2_with fail;have gn:=oX (n1+n2) w Gv;rw[Int.natCast_add]at gn;refine gn.mono ?_;clear gn;rintro e w1 ⟨v1,rfl,au,ci⟩;have e1:=Gw ci h1;have e2:=Gw ci h2;have gr:sb<w1.heap.size:=Br hs ci.size;obtain⟨v2,w2,gp,ai,ef⟩:=Hw (P:=Dp) w1 w.heap.size 31 31 92 i0 _ 4 48 Tryz.underlying31 ep dp ap bw rfl Gv v1 0 [] au A1 n1 c1 X1 O1.out (R1.out.below ci) A1'.out Gv Gv ci.size;have aj:Below w.heap.size w w2:=ci.grown ef ci.size (λq hq=>(au.lt q hq).1);have e3:w2.cell? ⟨sb,so+1,Ae⟩=Af (Ad A2 n2 c2):=Gw aj h2;obtain⟨v3,w3,IN,km,NR⟩:=Hw (P:=Dp) w2 w.heap.size 31 31 92 i0 _ 4 48 Tryz.underlying31 ep dp ap bw rfl Gv v2 _ _ ai A2 n2 c2 X2 O2.out (R2.out.below aj) A2'.out Gv Gv aj.size;have bh:Below w.heap.size w w3:=aj.grown NR aj.size (λq hq=>(ai.lt q hq).1);have ff:=Ah gp;have sk:=Ah IN;have HF:=Ah (aw.out v3 w3 (by rw[Bu,Eu]at km;exact km) bh);clear gp IN au ai km ef NR h1 h2 aw;go_wp2_with fail;refine wp_loop_rounds 3 ?_;rw[rounds_succ];go_wp2_with (at_builtin;refine As _ rfl _ _ _ _ rfl _ _ rfl rfl _ _ ff.out ?_);clear ff;go_wp2_with fail;rw[rounds_succ];go_wp2_with (at_builtin;refine As _ rfl _ _ _ _ rfl _ _ rfl rfl _ _ sk.out ?_);go_wp2_with fail;rw[rounds_succ];go_wp2;go_ret;exact HF.out
def dR (p q:Cl) (w:Aj):(Op.equal 90 (clK p) (clK q)).run Dp w= .ok (decide (p=q)) w:=eE p q w 9998
def yJ:kI (κ:=Cl) 90 clK where
 now:=⟨_,Tryz.underlying90,λp q=>rfl⟩
 eq:=dR
 check:=λb p w=>Gx
 bits:=λp=>by
  have h:∀n,Instr.sameBits (n+1+1) (clK p) (clK p)=true:=by intro n;simp[Instr.sameBits,clK]
  exact h 9998
def Tj (c:Cl):List Stk->Nat->Option Nat
 |[],_=>Ae
 |y::r,n=>if c=y.c then Af n else Tj c r (n+1)
def Mf:List Stk->Nat->List (Cl×Ak)
 |[],_=>[]
 |y::r,n=>(y.c,Aa Ab (n:Int))::Mf r (n+1)
def eW (c:Cl):∀(l:List Stk) (n:Nat),Qd c (Mf l n) n=(Tj c l n).map λ(i:Nat)=>(i,Aa Ab (i:Int))
 |[],n=>rfl
 |y::r,n=>by
  unfold Mf Qd Tj;by_cases h:c=y.c
  ·simp[h]
  ·simp only[Ha h];exact eW c r (n+1)
def At7 (c:Cl) (l:List Stk):Of c (Mf l 0)=(Tj c l 0).map λ(i:Nat)=> Aa Ab (i:Int):=by
 unfold Of;rw[eW,Option.map_map];rfl
def cJ (x:Stk):∀(l:List Stk) (n:Nat),Mf (l++[x]) n=Mf l n++[(x.c,Aa Ab ((n+l.length:Nat):Int))]
 |[],n=>rfl
 |y::r,n=>by
  have:=cJ x r (n+1);simp only[Er,Mf,this,Eo];rw[show n+1+r.length=n+(r.length+1)by omega]
def Az7 (x:Stk) (l:List Stk) (h:Tj x.c l 0=Ae):Ro x.c (Aa Ab (l.length:Int)) (Mf l 0)=Mf (l++[x]) 0:=by
 unfold Ro;rw[eW,h,cJ,Bu];rfl
def fP (x:Stk):∀(l:List Stk) (n i:Nat) (h:i<l.length),l[i].c=x.c->Mf (l.set i x) n=Mf l n
 |[],_,_,h,_=>absurd h (Nat.not_lt_zero _)
 |y::r,n,0,_,hc=>by
  have hc:y.c=x.c:=hc;simp[Mf,hc]
 |y::r,n,i+1,h,hc=>by
  simp only[Ch,Mf];rw[fP x r (n+1) i (by simpa using h) (by simpa using hc)]
def Wn {c:Cl}:∀{l:List Stk} {n i:Nat},Tj c l n=Af i->n<=i/\∃h:i-n<l.length,l[i-n].c=c
 |[],_,_,h=>by simp[Tj]at h
 |y::r,n,i,h=>by
  unfold Tj at h;by_cases hc:c=y.c
  ·rw[Hc hc]at h;obtain rfl:n=i:=by simpa using h
   exact⟨Am _,Gy,by simp[hc]⟩
  ·rw[Ha hc]at h;obtain⟨h1,h2,h3⟩:=Wn h;refine⟨Gv,Hv,?_⟩;have e:i-n=(i-(n+1))+1:=Gv;simp only[e,Ce];exact h3
def Sq {x:Stk}:∀{l:List Stk} {n:Nat},Tj x.c l n=Ae->Nd x l=l++[x]/\x.c∉l.map (·.c)
 |[],_,_=>⟨rfl,Gy⟩
 |y::r,n,h=>by
  unfold Tj at h;by_cases hc:x.c=y.c
  ·rw[Hc hc]at h;cases h
  ·rw[Ha hc]at h;obtain⟨h1,h2⟩:=Sq h;refine⟨?_,by simp only[Es,Bk,not_or];exact⟨hc,h2⟩⟩;unfold Nd;rw[Ha (λe=>hc e.symm),h1];rfl
def Ss {x:Stk}:∀{l:List Stk} {n i:Nat},Tj x.c l n=Af i->∃h:i-n<l.length,Nd x l=l.set (i-n) ⟨x.c,l[i-n].ls++x.ls⟩
 |[],_,_,h=>by simp[Tj]at h
 |y::r,n,i,h=>by
  have hh:=h;unfold Tj at h;by_cases hc:x.c=y.c
  ·rw[Hc hc]at h;obtain rfl:n=i:=by simpa using h
   refine⟨Gy,?_⟩;unfold Nd;rw[Hc hc.symm];simp[hc]
  ·rw[Ha hc]at h;obtain⟨h1,h2⟩:=Ss h;obtain⟨h3,-⟩:=Wn h;refine⟨Hv,?_⟩;have e:i-n=(i-(n+1))+1:=Gv;unfold Nd;rw[Ha (λe=>hc e.symm),h2];simp only[e,Ch,Ce]
def Lf (l:List Stk):List Stk:=l.foldl (λo x=>if x.ls.isEmpty then o else Nd x o) []
def vW (l:List Stk) (k:Nat) (h:k<l.length):Lf (l.take (k+1))=if l[k].ls.isEmpty then Lf (l.take k)else Nd l[k] (Lf (l.take k)):=by
 unfold Lf;rw[Bc h,List.foldl_append];rfl
def Xm (x:Stk) (l:List Stk):(Nd x l).map (·.c)=l.map (·.c)∨((Nd x l).map (·.c)=l.map (·.c)++[x.c]/\x.c∉l.map (·.c)):=by
 cases h:Tj x.c l 0 with
 |none=>
  obtain⟨h1,h2⟩:=Sq h;exact .inr ⟨by rw[h1];simp,h2⟩
 |some i=>
  obtain⟨h1,h2⟩:=Ss h;obtain⟨_,h3,h4⟩:=Wn h;refine .inl ?_;rw[h2,List.map_set];have e:x.c=(l.map (λy:Stk=>y.c))[i-0]'(by simpa using h1):=by rw[List.getElem_map];exact h4.symm
  show(l.map (λy:Stk=>y.c)).set (i-0) x.c=l.map (λy:Stk=>y.c);rw[e,List.set_getElem_self]
def vM {x:Stk} (h:(l.map (·.c)).Nodup):((Nd x l).map (·.c)).Nodup:=by
 rcases Xm x l with e|⟨e,hn⟩
 ·rw[e];exact h
 ·rw[e,Bq];refine⟨h,Gy,λa ha b hb e=>?_⟩;simp at hb;subst hb;subst e;exact hn ha
def aP (f:β->α->β) (P:β->Prop) (h:∀b a,P b->P (f b a)):∀(l:List α) (b:β),P b->P (l.foldl f b)
 |[],_,hb=>hb
 |x::r,b,hb=>aP f P h r _ (h b x hb)
def Vg (l:List Stk):((Lf l).map (·.c)).Nodup:=
 aP (λo (x:Stk)=>if x.ls.isEmpty then o else Nd x o) (λo:List Stk=>(o.map (·.c)).Nodup) (λb a hb=>by split;exact hb;exact vM hb) l [] Gy
def Aw2 (x:Stk) (l:List Stk):(Nd x l).length<=l.length+1:=by
 have:=congrArg List.length (rfl:(Nd x l).map (·.c)=(Nd x l).map (·.c));rcases Xm x l with e|⟨e,-⟩
 ·have:=congrArg List.length e;simp at this;omega
 ·have:=congrArg List.length e;simp at this;omega
def Ag9 (l:List Stk):(Lf l).length<=l.length:=by
 have:∀(l:List Stk) (o:List Stk),(l.foldl (λo x=>if x.ls.isEmpty then o else Nd x o) o).length<=o.length+l.length:=by
  intro l
  induction l with
  |nil=>intro o;simp
  |cons x r ih=>
   intro o;rw[List.foldl_cons,Eo];refine Bt (ih _) ?_
   split
   ·omega
   ·have:=Aw2 x o;omega
 have h:=this l [];rw[List.length_nil,Bu]at h;exact h
def Jw (l:List Stk):Nat:=(l.map λx=>x.ls.length).sum
def rZ:∀(l:List Stk) (i:Nat) (h:i<l.length) (c:Cl) (ys:List Nat),Jw (l.set i ⟨c,l[i].ls++ys⟩)=Jw l+ys.length
 |[],_,h,_,_=>absurd h (Nat.not_lt_zero _)
 |y::r,0,_,c,ys=>by simp[Jw];omega
 |y::r,i+1,h,c,ys=>by
  have:=rZ r i (by simpa using h) c ys;simp[Jw]at this⊢;omega
def An1 (x:Stk) (l:List Stk):Jw (Nd x l)=Jw l+x.ls.length:=by
 cases h:Tj x.c l 0 with
 |none=>rw[(Sq h).1];simp[Jw]
 |some i=>
  obtain⟨h1,h2⟩:=Ss h;rw[h2,rZ]
def Yf (l:List Stk):Jw (Lf l)=Jw l:=by
 have:∀(l o:List Stk),Jw (l.foldl (λo x=>if x.ls.isEmpty then o else Nd x o) o)=Jw o+Jw l:=by
  intro l
  induction l with
  |nil=>intro o;simp[Jw]
  |cons x r ih=>
   intro o;rw[List.foldl_cons,ih]
   split
   ·rename_i h;have:x.ls=[]:=by simpa using h
    simp[Jw,this]
   ·rw[An1];simp[Jw];omega
 have h:=this l [];rw[show Jw []=0 from rfl,Bu]at h;exact h
def Rk:∀{l:List Stk} {x:Stk},x∈l->x.ls.length<=Jw l
 |y::r,x,h=>by
  rcases Bk.1 h with rfl|h
  ·simp[Jw]
  ·have:=Rk h;simp[Jw]at this⊢;omega
def Bn7 {x:Stk} (hx:x.ls≠[]) (h:∀y∈l,y.ls≠[]):∀y∈Nd x l,y.ls≠[]:=by
 cases hp:Tj x.c l 0 with
 |none=>
  rw[(Sq hp).1];intro y hy;rcases Bl.1 hy with hy|hy
  ·exact h y hy
  ·simp at hy;subst hy;exact hx
 |some i=>
  obtain⟨h1,h2⟩:=Ss hp;rw[h2];intro y hy;rcases List.mem_or_eq_of_mem_set hy with hy|rfl
  ·exact h y hy
  ·simp[hx]
def qH (l:List Stk):∀x∈Lf l,x.ls≠[]:=
 aP (λo (x:Stk)=>if x.ls.isEmpty then o else Nd x o) (λo:List Stk=>∀x∈o,x.ls≠[]) (λb a hb=>by
  split
  ·exact hb
  ·rename_i h;exact Bn7 (by simpa using h) hb) l [] Gy
def An3 (l:List Stk) (k:Nat):Jw (l.take k)<=Jw l:=by
 have h:Jw l=Jw (l.take k)+Jw (l.drop k):=by
  unfold Jw;rw[<-List.sum_append,<-Ez,List.take_append_drop]
 omega
def Wo (R:α->α->Prop):∀(l1 l2:List α),l1.Perm l2->l1.Pairwise R->l2.Pairwise R->(∀a∈l1,∀b∈l1,R a b->R b a->a=b)->l1=l2
 |[],l2,h,_,_,_=>(List.Perm.nil_eq h)
 |a::r,[],h,_,_,_=>absurd h.symm Gy
 |a::r,b::s,h,h1,h2,ha=>by
  rw[Gg]at h1 h2
  have fd:a=b:=by
   have m1:a∈b::s:=h.mem_iff.1 Gy;have m2:b∈a::r:=h.mem_iff.2 Gy;rcases Bk.1 m1 with e|m1
   ·exact e
   rcases Bk.1 m2 with e|ZH
   ·exact e.symm
   exact ha a Gy b m2 (h1.1 b ZH) (h2.1 a m1)
  subst fd;rw[Wo R r s ((List.perm_cons a).1 h) h1.2 h2.2 λx hx y hy=>ha x (by simp[hx]) y (by simp[hy])]
def jA (x:Stk) (l:List Stk):(pJ x l).Perm (x::l):=by
 induction l with
 |nil=>exact .refl _
 |cons y r ih=>
  unfold pJ
  split
  ·exact .refl _
  ·exact(ih.cons y).trans (List.Perm.swap x y r)
def Jd (l:List Stk):(No l).Perm l:=by
 induction l with
 |nil=>exact .refl _
 |cons x r ih=>exact(jA x _).trans (ih.cons x)
def Yo {a b:Cl}:Ka a b<=0↔¬Ka b a<0:=by
 rw[Jl];have n1:=Mx (a:=a.y) (b:=b.y);have z1:=Jf (a:=a.y) (b:=b.y);have n2:=Mx (a:=a.x) (b:=b.x);have z2:=Jf (a:=a.x) (b:=b.x);have n3:=Mx (a:=(a.q:Int)) (b:=(b.q:Int));have z3:=Jf (a:=(a.q:Int)) (b:=(b.q:Int));unfold Ka;generalize Ik a.y b.y=t1 at*;generalize Ik a.x b.x=t2 at*;generalize Ik (a.q:Int) (b.q:Int)=t3 at*
 split
 ·omega
 ·split
  ·omega
  ·omega
def Bj9 (x:Stk) (l:List Stk) (h:l.Pairwise λp q=>¬Ka q.c p.c<0):(pJ x l).Pairwise λp q=>¬Ka q.c p.c<0:=by
 induction l with
 |nil=>exact List.pairwise_singleton _ _
 |cons y r ih=>
  unfold pJ;have hh:=h;rw[Gg]at h
  split
  ·rename_i hc;rw[Gg];refine⟨λz hz=>?_,hh⟩;have h1:=Yo.1 hc;rcases Bk.1 hz with rfl|hz
   ·exact h1
   ·have h2:=h.1 z hz;rw[Jl]at*;omega
  ·rename_i hc;rw[Gg];refine⟨λz hz=>?_,ih h.2⟩;rcases Bk.1 ((jA x r).mem_iff.1 hz)with rfl|hz
   ·have:Ka y.c z.c<0:=by
     have:=mt Yo.2 hc;omega
    rw[Jl]at*;omega
   ·exact h.1 z hz
def rS (l:List Stk):(No l).Pairwise λp q=>¬Ka q.c p.c<0:=by
 induction l with
 |nil=>exact .nil
 |cons x r ih=>exact Bj9 x _ ih
def iP:∀{l:List Stk},(l.map (·.c)).Nodup->∀a∈l,∀b∈l,a.c=b.c->a=b
 |[],_,a,ha,_,_,_=>absurd ha Gy
 |y::r,h,a,ha0,b,lh,e=>by
  rw[Es,Ei]at h;rcases Bk.1 ha0 with e1|ha
  ·rcases Bk.1 lh with e2|hb
   ·rw[e1,e2]
   ·exact absurd (Dr.2 ⟨b,hb,by rw[<-e,e1]⟩) h.1
  ·rcases Bk.1 lh with e2|hb
   ·exact absurd (Dr.2 ⟨a,ha,by rw[e,e2]⟩) h.1
   ·exact iP h.2 a ha b hb e
def mT (hp:l'.Perm L) (hs:l'.Pairwise λp q=>¬Ka q.c p.c<0) (hn:(L.map (·.c)).Nodup):l'=No L:=by
 refine Wo _ l' (No L) (hp.trans (Jd L).symm) hs (rS L) λa ha b hb h1 h2=>?_;refine iP hn a (hp.mem_iff.1 ha) b (hp.mem_iff.1 hb) ?_;rw[Jl]at h1 h2;obtain⟨⟨ax,ay,aq⟩,al⟩:=a;obtain⟨⟨bx,qd,bq⟩,bl⟩:=b;dsimp only at h1 h2⊢;have e1:ax=bx:=Gv;have e2:ay=qd:=Gv;have e3:aq=bq:=Gv;rw[e1,e2,e3]
def Uz (l:List Stk) (P:Cl->Prop) (h:∀x∈l,P x.c):∀x∈Lf l,P x.c:=by
 have:∀(l o:List Stk),(∀x∈l,P x.c)->(∀x∈o,P x.c)->∀x∈l.foldl (λo x=>if x.ls.isEmpty then o else Nd x o) o,P x.c:=by
  intro l
  induction l with
  |nil=>intro o _ h;exact h
  |cons y r ih=>
   intro o h1 h2;refine ih _ (λx hx=>h1 x (by simp[hx])) ?_;dsimp only
   split
   ·exact h2
   ·intro x hx;have hm:x.c∈(Nd y o).map (·.c):=Dr.2 ⟨x,hx,rfl⟩;rcases Xm y o with e|⟨e,-⟩
    ·rw[e]at hm;obtain⟨z,hz,e⟩:=Dr.1 hm;exact e▸h2 z hz
    ·rw[e]at hm;rcases Bl.1 hm with hm|hm
     ·obtain⟨z,hz,e⟩:=Dr.1 hm;exact e▸h2 z hz
     ·simp at hm;exact hm▸h1 y Gy
 exact this l [] h Gy
def Um (w:Aj) (x:SkR):Prop:=∀g,x.2.1.map (·.block)=Af g->∃cur,w.heap[g]? =Af (.cells cur 3 (0,0))/\x.2.2<=cur.size
def Um.same (h:Um w x) (hb:∀g∈Kk x,w'.heap[g]? =w.heap[g]?):Um w' x:=λg hg=>by
 obtain⟨cur,h1,h2⟩:=h g hg;exact⟨cur,(hb g (by unfold Kk;rw[hg];simp)).trans h1,h2⟩
def Um.clip {c:Cl} {l:List Nat} (h:Jk w O 3 1 A l.length (Ih l)):Um w (⟨c,l⟩,(A,l.length)):=λg hg=>by
 rcases h.2 with⟨rfl,_⟩|⟨g',cur,rfl,r2,r3,r4,-⟩
 ·cases hg
 ·obtain rfl:g'=g:=by simpa using hg
  exact⟨cur,r3,by simpa using r4⟩
def cH (a b:List Nat):Ih (a++b)=Ih a++Ih b:=by simp[Ih]
def Ap7 (hx:Nj O w x) (hc:Um w x) (hO:O<=w.heap.size) (hne:0<x.1.ls.length) (a:Cj) (m cm:Nat) (ys:List Nat) (hl:ys.length=m) (hr:Rd w (Af a) 1 m (Ih ys)) (hm:x.1.ls.length+m<=1000000):
  ∃A' c' w',(Builtin.append_ #[38,38] 38 #[Ad x.2.1 x.1.ls.length x.2.2,Ad (Af a) m cm]).run Dp w= .ok (Ad A' (x.1.ls.length+m) c') w'/\
   Nj O w' (⟨x.1.c,x.1.ls++ys⟩,(A',c'))/\Um w' (⟨x.1.c,x.1.ls++ys⟩,(A',c'))/\w.grownBy w' (x.2.1.map (·.block))/\(A'.map (·.block)=x.2.1.map (·.block)∨A'.map (·.block)=Af w.heap.size):=by
 obtain⟨i,hi,hz,hs,hb⟩:=info_parts Nq;obtain⟨⟨c,l⟩,A,cap⟩:=x;obtain⟨h1,h2,h3,h4,h5⟩:=hx;dsimp only at h1 h2 h3 h4 h5 hne hm⊢;rcases h5 with⟨-,h0⟩|⟨g,cur,rfl,r2,r3,r4,r5⟩
 ·omega
 obtain⟨C7,r3',r6⟩:=hc g rfl;rw[r3]at r3';obtain rfl:cur=C7:=by simpa using r3'
 dsimp only at r6;rw[Dc]at r4 r5;have bv:(Ih ys).length=m*i.size:=by rw[hs,Lr,hl,Dc]
 have hia:(Ih (l++ys)).length=(l.length+m)*1:=by rw[Lr,Bh,hl,Dc]
 by_cases YQ:l.length+m<=cap
 ·have ah:=run_append_room (P:=Dp) w 38 38 3 i Dl hi g l.length cap cur r3 a m cm (Ih ys) bv hr.allK (Yv ys) YQ (by rw[hs,Lr,hl];omega);rw[hs,Dc,Lr,hl]at ah;refine⟨_,_,_,ah,⟨.inr ⟨g,0,rfl⟩,?_,h3,?_,.inr ⟨g,_,rfl,r2,setRow_heap w g cur _ 3 _ r3,?_,?_⟩⟩,?_,⟨rfl,rfl,rfl,Gy,λk _ hk=>setRow_other w g k _ (λe=>hk (by simp[e]))⟩,.inl rfl⟩
  ·simp[hl];exact YQ
  ·simpa[hl]using hia
  ·simp[Lr,hl];omega
  ·have e:(l++ys).length*1=(cur.toList.take l.length++Ih ys).length:=by simp[Lr,hl];omega
   rw[cH,e,<-r5];exact List.take_left
  ·intro g' wl;obtain rfl:g=g':=by simpa using wl
   exact⟨_,setRow_heap w g cur _ 3 _ r3,by simp[Lr,hl];omega⟩
 ·have holds:∀j v,(Ih l)[j]? =Af v->w.cell? ((⟨g,0,Ae⟩:Cj).add j)=Af v:=λj v hj=>by
   have ft:(⟨g,0,Ae⟩:Cj).add j=⟨g,j,Ae⟩:=by unfold Addr.add;split<;>simp_all
   rw[ft,Bz w g j cur 3 (0,0) r3];rw[<-r5,List.getElem?_take]at hj
   split at hj
   ·simpa using hj
   ·cases hj
  have ah:=run_append_grow (P:=Dp) w 38 38 3 i _ Dl hi hz ⟨g,0,Ae⟩ l.length cap (Ih l) (by rw[hs,Lr,Dc]) holds a m cm (Ih ys) bv hr.allK Gv Gv (growslice_fits Gv (by rw[hb];omega));have jz:=grownCap_ge w (l.length+m) cap 3;have jb:=grownCap_le_maxLen w (l.length+m) cap 3 (by simp[maxLen];omega);obtain⟨C,hC⟩:=ey (grownCap w (l.length+m) cap 3);rw[hC]at ah jz jb
  have gg:((Ih l).toArray++(Ih ys).toArray++Gn (Value.int .i64 0).cells (C-(l.length+m))).size=C:=by
   rw[Array.size_append,Array.size_append,size_zeroCells];simp[Lr,hl,Value.cells];omega
  refine⟨_,_,_,ah,⟨.inr ⟨_,0,rfl⟩,?_,jb,?_,.inr ⟨_,_,rfl,hO,Ca w.drew _,?_,?_⟩⟩,?_,⟨rfl,rfl,rfl,Gy,λk hk _=>Eh w.drew _ k hk⟩,.inr rfl⟩
  ·simp[hl];exact jz
  ·simpa[hl]using hia
  ·rw[gg];simp[hl];exact jz
  ·have e:(l++ys).length*1=(Ih l++Ih ys).length:=by simp[Lr,hl]
   simp only[Array.toList_append,Bj];rw[<-Bj,e,<-cH];exact List.take_left
  ·intro g' wl;obtain rfl:w.heap.size=g':=by simpa using wl
   exact⟨_,Ca w.drew _,by rw[gg];exact Am _⟩
def SmB.key (x:SmB):Cl×Cl:=(x.s.a,x.s.b)
def SmB.ptr (x:SmB):Ak:= .pointer (Af ⟨x.p,0,Ae⟩)
def Ot (l:List SmB):List ((Cl×Cl)×Ak):=l.map λx=>(x.key,x.ptr)
def tZ (p:Cl×Cl) (l:List SmB):(∃l1 x l2,l=l1++x::l2/\x.key=p/\Of p (Ot l)=Af x.ptr/\∀y∈l1,y.key≠p)∨(p∉l.map SmB.key/\Of p (Ot l)=Ae):=by
 induction l with
 |nil=>exact .inr ⟨Gy,rfl⟩
 |cons x r ih=>
  have e:Of p (Ot (x::r))=if p=x.key then Af x.ptr else Of p (Ot r):=Qv p (x.key,x.ptr) (Ot r);by_cases h:p=x.key
  ·exact .inl ⟨[],x,r,rfl,h.symm,by rw[e,Hc h],Gy⟩
  ·rw[Ha h]at e;rcases ih with⟨l1,y,l2,rfl,h1,h2,h3⟩|⟨h1,h2⟩
   ·exact .inl ⟨x::l1,y,l2,rfl,h1,e.trans h2,λz hz=>(Bk.1 hz).elim (λe=>e▸Ne.symm h) (h3 z)⟩
   ·exact .inr ⟨by simp only[Es,Bk,not_or];exact⟨h,h1⟩,e.trans h2⟩
def Az8 (p:Cl×Cl) (v:Ak) (l:List SmB) (h:p∉l.map SmB.key):Ro p v (Ot l)=Ot l++[(p,v)]:=by
 rcases tZ p l with⟨l1,x,l2,rfl,h1,_⟩|⟨_,h2⟩
 ·exact absurd (by simp[<-h1]) h
 ·unfold Of at h2;unfold Ro
  cases hi:Qd p (Ot l) 0 with
  |none=>rfl
  |some r=>rw[hi]at h2;simp at h2
def Wj (o:Option Nat):o.toList.Nodup:=by cases o<;>simp
def Oz (O:Nat) (w:Aj) (kv:Ak) (l:List SmB):Prop:=∃ks:List (Cl×Cl),ks.Perm (l.map SmB.key)/\w.ownsRow O 329 6 kv ks.length (ks.flatMap pkC)
def Oz.lt {l:List SmB} (h:Oz O w kv l):∀g,kv.ownBlock=Af g->O<=g/\g<w.heap.size:=by
 obtain⟨ks,-,h⟩:=h;exact h.lt
def Oz.same {l:List SmB} (h:Oz O w kv l) (hb:∀g,kv.ownBlock=Af g->w'.heap[g]? =w.heap[g]?):Oz O w' kv l:=by
 obtain⟨ks,h1,h2⟩:=h;exact⟨ks,h1,Io h2 hb⟩
def Oz.keys {l l':List SmB} (h:Oz O w kv l) (e:l'.map SmB.key=l.map SmB.key):Oz O w kv l':=by
 obtain⟨ks,h1,h2⟩:=h;exact⟨ks,e▸h1,h2⟩
def Hq (B M:Nat) (kv:Ak) (l:List SmB):List Nat:=B::M::(kv.ownBlock.toList++l.flatMap SmB.blks)
def Il (O B:Nat) (F:List Nat) (fix:List Ak) (w:Aj) (l:List SmB):Prop:=
 ∃M kv,fix.length=6/\w.heap[B]? =Af (.cells (fix++[.map (Af M),kv]).toArray 326 (0,0))/\Kl pkK w M (Ot l)/\Oz O w kv l/\Oi O w l/\
  (l.map SmB.key).Nodup/\(Hq B M kv l).Nodup/\O<=B/\O<=M/\∀g∈F,g<w.heap.size/\g∉Hq B M kv l
def Mm {fix:List Ak} (hf:fix.length=6) (h:w.heap[B]? =Af (.cells (fix++[.map (Af M),kv]).toArray 326 (0,0))):
  w.cell? ⟨B,6,Ae⟩=Af (.map (Af M))/\w.cell? ⟨B,7,Ae⟩=Af kv/\(∀j,w.frozen? ⟨B,j,Ae⟩=false)/\(∀kv',(w.setCell ⟨B,7,Ae⟩ kv').heap[B]? =Af (.cells (fix++[.map (Af M),kv']).toArray 326 (0,0)))/\∀(j:Nat) (v:Ak),fix[j]? =Af v->w.cell? ⟨B,j,Ae⟩=Af v:=by
 have hc:=λj=>Bz w B j _ _ (0,0) h;refine⟨?_,?_,λj=>by simp[World.frozen?,h],λkv'=>?_,λj v hv=>?_⟩
 ·rw[hc];simp[hf]
 ·rw[hc];simp[hf]
 ·rw[Ju _ h]
  congr 2
  apply Array.ext';simp[hf]
 ·rw[hc];have hj:=(List.getElem?_eq_some_iff.1 hv).1;simp[List.getElem?_append_left hj,hv]
def Frm (O:Nat) (F:List Nat) (w w':Aj):Prop:=Below O w w'/\∀g∈F,w'.heap[g]? =w.heap[g]?
def Frm.trans {a b c:Aj} (h:Frm O F a b) (k:Frm O F b c):Frm O F a c:=⟨h.1.trans k.1,λg hg=>(k.2 g hg).trans (h.2 g hg)⟩
def SmB.ok.lt {x:SmB} (h:x.ok O w):∀g∈x.blks,O<=g/\g<w.heap.size:=by
 obtain⟨h0,h1,h2,h3,h4⟩:=h;intro g hg;unfold SmB.blks at hg;simp only[Bk,Bl,Option.mem_toList]at hg;rcases hg with rfl|(hg|hg)|hg
 ·exact⟨h0,(Au.1 h1).1⟩
 ·exact h2.lt g hg
 ·exact h3.lt g hg
 ·exact h4.lt g hg
def Oi.lt {l:List SmB} (h:Oi O w l):∀g∈l.flatMap SmB.blks,O<=g/\g<w.heap.size:=λg hg=>by
 obtain⟨x,hx,hg⟩:=Ec.1 hg;exact(h.1 x hx).lt g hg
def aH {l:List SmB} {c:Array Ak} {t:Ck} (h1:w.heap[B]? =Af (.cells c t (0,0))) (h2:Kl pkK w M (Ot l)) (h3:Oz O w kv l) (h4:Oi O w l) (hB:O<=B) (hM:O<=M):
  ∀g∈Hq B M kv l,O<=g/\g<w.heap.size:=λg hg=>by
 unfold Hq at hg;simp only[Bk,Bl,Option.mem_toList]at hg;rcases hg with rfl|rfl|hg|hg
 ·exact⟨hB,(Au.1 h1).1⟩
 ·exact⟨hM,h2.lt⟩
 ·exact h3.lt g hg
 ·exact h4.lt g hg
def Il.below {fix:List Ak} {l:List SmB} (h:Il O B F fix w l) (hb:Below w.heap.size w w'):Il O B F fix w' l:=by
 obtain⟨M,kv,h1,h2,h3,h4,h5,h6,h7,h8,h9,CU⟩:=h;exact⟨M,kv,h1,kept hb h2 (Au.1 h2).1,h3.below hb h3.lt,h4.same λg hg=>hb.block g (h4.lt g hg).2,h5.same λg hg=>hb.block g (h5.lt g hg).2,h6,h7,h8,h9,λg hg=>⟨Br (CU g hg).1 hb.size,(CU g hg).2⟩⟩
def Il.frm {fix:List Ak} {l:List SmB} (h:Il O B F fix w l) (hb:Below w.heap.size w w'):Frm O F w w':=by
 obtain⟨M,kv,h1,h2,h3,h4,h5,h6,h7,h8,h9,CU⟩:=h;exact⟨hb.mono (oHx ((Au.1 h2).1)),λg hg=>hb.block g (CU g hg).1⟩
def Aq4 {fix:List Ak} {l:List SmB} {y:SmB} (jq:fix.length=6) (OF:Oi O w l) (hk:(l.map SmB.key).Nodup) (ca:(Hq B M kv l).Nodup) (hOB:O<=B) (hOM:O<=M)
  (hF:∀g∈F,g<w.heap.size/\g∉Hq B M kv l) (ac:∀g∈Hq B M kv l,O<=g/\g<w.heap.size)
  (hB':w'.heap[B]? =Af (.cells (fix++[.map (Af M),kv']).toArray 326 (0,0))) (hM':Kl pkK w' M (Ot (l++[y]))) (ho':Oz O w' kv' (l++[y])) (hy:y.ok O w') (jr:y.key∉l.map SmB.key)
  (hkv:kv'.ownBlock=kv.ownBlock∨∃g,kv'.ownBlock=Af g/\w.heap.size<=g) (ym:y.blks.Nodup) (ZB:∀g∈y.blks,w.heap.size<=g/\kv'.ownBlock≠Af g)
  (hs:∀g,g<w.heap.size->g≠B->g≠M->kv.ownBlock≠Af g->w'.heap[g]? =w.heap[g]?) (gg:w.heap.size<=w'.heap.size):
  Il O B F fix w' (l++[y])/\∀g∈F,w'.heap[g]? =w.heap[g]? :=by
 have hnd0:=ca;unfold Hq at ca;simp only[Ei,Bq,Bk,Bl,Option.mem_toList,not_or]at ca;obtain⟨⟨b1,b2,b3⟩,⟨m1,m2⟩,k1,k2,k3⟩:=ca;have mi:∀g∈l.flatMap SmB.blks,w'.heap[g]? =w.heap[g]? :=λg hg=>hs g (OF.lt g hg).2 (λe=>b3 (e▸hg)) (λe=>m2 (e▸hg)) λe=>k3 g e g hg rfl;have hms':Oi O w' (l++[y]):=OF.snoc hy mi ym λg hg h=>by have:=(OF.lt g h).2;have:=(ZB g hg).1;omega
 have ut:∀g,kv'.ownBlock=Af g->g≠B/\g≠M/\g∉l.flatMap SmB.blks:=by
  intro g hg;rcases hkv with h|⟨g',h,h'⟩
  ·rw[h]at hg;exact⟨λe=>b2 (e▸hg),λe=>m1 (e▸hg),λh=>k3 g hg g h rfl⟩
  ·obtain rfl:g'=g:=by rw[h]at hg;injection hg
   refine⟨?_,?_,λh=>?_⟩
   ·rintro rfl;have:=(ac g' (by simp[Hq])).2;omega
   ·rintro rfl;have:=(ac g' (by simp[Hq])).2;omega
   ·have:=(OF.lt g' h).2;omega
 have br:∀g,g∈Hq B M kv' (l++[y])->g∈Hq B M kv l∨w.heap.size<=g:=by
  intro g hg;unfold Hq at hg⊢;simp only[Bk,Bl,Option.mem_toList,Bi,Bf,List.flatMap_nil,Ff]at hg⊢;rcases hg with hg|hg|hg|hg|hg
  ·exact .inl (.inl hg)
  ·exact .inl (.inr (.inl hg))
  ·rcases hkv with h|⟨g',h,h'⟩
   ·exact .inl (.inr (.inr (.inl (h▸hg))))
   ·rw[h]at hg;injection hg with hg;exact .inr (hg▸h')
  ·exact .inl (.inr (.inr (.inr hg)))
  ·exact .inr (ZB g hg).1
 refine⟨⟨M,kv',jq,hB',hM',ho',hms',?_,?_,hOB,hOM,λg hg=>⟨Br (hF g hg).1 gg,λh=>?_⟩⟩,λg hg=>?_⟩
 ·rw[Ez,Bq];exact⟨hk,Gy,λa ha b hb e=>jr (by(obtain rfl:b=y.key:=by simpa using hb);exact e▸ha)⟩
 ·have e:(l++[y]).flatMap SmB.blks=l.flatMap SmB.blks++y.blks:=Gy;unfold Hq;simp only[Ei,Bq,Bk,Bl,Option.mem_toList,not_or,e];have hyB:∀g∈Hq B M kv l,g∉y.blks:=λg hg h=>by have:=(ac g hg).2;have:=(ZB g h).1;omega
  refine⟨⟨b1,λh=>(ut B h).1 rfl,b3,hyB B (by simp[Hq])⟩,⟨λh=>(ut M h).2.1 rfl,m2,hyB M (by simp[Hq])⟩,Wj _,⟨k2,ym,λa ha b hb e=>?_⟩,λa ha b hb e=>?_⟩
  ·subst e;exact hyB a (by simp only[Hq,Bk,Bl];exact .inr (.inr (.inr ha))) hb
  ·subst e;rcases hb with hb|hb
   ·exact(ut a ha).2.2 hb
   ·exact(ZB a hb).2 ha
 ·rcases br g h with h|h
  ·exact(hF g hg).2 h
  ·have:=(hF g hg).1;omega
 ·obtain⟨h1,h2⟩:=hF g hg;unfold Hq at h2;simp only[Bk,Bl,Option.mem_toList,not_or]at h2;exact hs g h1 h2.1 h2.2.1 h2.2.2.1
def zD (x y:Cl):Cl×Cl:=if 0<Ka x y then (y,x)else (x,y)
def Bu1 (O B:Nat) (F:List Nat) (fix:List Ak) (k:Cl×Cl) (l:List SmB) (w:Aj) (e:Ending) (w':Aj):Prop:=
 ∃l1 x l2,e= .returned x.ptr/\x.key=k/\(l=l1++x::l2∨(l=l1/\l2=[]/\k∉l.map SmB.key/\x.s=Sm.none k.1 k.2))/\Il O B F fix w' (l1++x::l2)/\Frm O F w w'
def An6 {a b:Cl} {l:List Sm} (h:∀s∈l,¬(s.a=a/\s.b=b)):Qr a b f l=l++[f (Sm.none a b)]:=by
 induction l with
 |nil=>rfl
 |cons s r ih=>simp[Qr,h s Gy,ih λt ht=>h t (by simp[ht])]
def An7 {a b:Cl} {l1 l2:List Sm} (h:∀s∈l1,¬(s.a=a/\s.b=b)) (hs:s.a=a/\s.b=b):Qr a b f (l1++s::l2)=l1++f s::l2:=by
 induction l1 with
 |nil=>simp[Qr,hs]
 |cons t r ih=>simp[Qr,h t Gy,ih λu hu=>h u (by simp[hu])]
def Il.change {fix:List Ak} {l1 l2:List SmB} {x y:SmB} (h:Il O B F fix w (l1++x::l2)) (hy:y.ok O w') (hp:y.p=x.p) (NY:y.key=x.key) (ym:y.blks.Nodup)
  (ZB:∀g∈y.blks,g∈x.blks∨w.heap.size<=g) (hs:∀g,g<w.heap.size->g∉x.blks->w'.heap[g]? =w.heap[g]?) (gg:w.heap.size<=w'.heap.size):Il O B F fix w' (l1++y::l2)/\∀g∈F,w'.heap[g]? =w.heap[g]? :=by
 obtain⟨M,kv,h1,h2,h3,h4,h5,h6,h7,h8,h9,CU⟩:=h;have ac:=aH h2 h3 h4 h5 h8 h9;have hB:B<w.heap.size:=(Au.1 h2).1;have UV:Ot (l1++y::l2)=Ot (l1++x::l2):=by simp[Ot,NY,SmB.ptr,hp]
 have zx:(l1++y::l2).map SmB.key=(l1++x::l2).map SmB.key:=by simp[NY]
 have ca:=h7;unfold Hq at ca;simp only[Ei,Bq,Bk,Bl,Option.mem_toList,not_or,Bi,Bf]at ca;obtain⟨⟨b1,b2,b3,b4,b5⟩,⟨m1,m2,m3,m4⟩,k1,⟨k2,⟨k3,k4,k5⟩,k6⟩,k7⟩:=ca
 have OF:Oi O w' (l1++y::l2):=by
  refine h5.change hy (λg hg=>?_) ym λg hg=>?_
  ·have wl:g∈(l1++x::l2).flatMap SmB.blks:=by
    simp only[Bi,Bf,Bl]at hg⊢;rcases hg with hg|hg
    ·exact .inl hg
    ·exact .inr (.inr hg)
   refine hs g (h5.lt g wl).2 λhx=>?_;rcases Bl.1 hg with hg|hg
   ·exact k6 g hg g (.inl hx) rfl
   ·exact k5 g hx g hg rfl
  ·rcases ZB g hg with h|h
   ·exact .inl h
   ·refine .inr λhg=>?_
    have wl:g∈(l1++x::l2).flatMap SmB.blks:=by
     simp only[Bi,Bf,Bl]at hg⊢;rcases hg with hg|hg
     ·exact .inl hg
     ·exact .inr (.inr hg)
    have:=(h5.lt g wl).2;omega
 have br:∀g,g∈Hq B M kv (l1++y::l2)->g∈Hq B M kv (l1++x::l2)∨w.heap.size<=g:=by
  intro g hg;unfold Hq at hg⊢;simp only[Bk,Bl,Option.mem_toList,Bi,Bf]at hg⊢;rcases hg with hg|hg|hg|hg|hg|hg
  ·exact .inl (.inl hg)
  ·exact .inl (.inr (.inl hg))
  ·exact .inl (.inr (.inr (.inl hg)))
  ·exact .inl (.inr (.inr (.inr (.inl hg))))
  ·rcases ZB g hg with h|h
   ·exact .inl (.inr (.inr (.inr (.inr (.inl h)))))
   ·exact .inr h
  ·exact .inl (.inr (.inr (.inr (.inr (.inr hg)))))
 have XJ:w'.heap[M]? =w.heap[M]? :=hs M h3.lt m3;refine⟨⟨M,kv,h1,(hs B hB b4).trans h2,?_,?_,OF,zx▸h6,?_,h8,h9,λg hg=>⟨Br (CU g hg).1 gg,λh=>?_⟩⟩,λg hg=>?_⟩
 ·rw[UV];obtain⟨es,clock,e1,e2⟩:=h3;exact⟨es,clock,XJ.trans e1,e2⟩
 ·exact(h4.same λg hg=>hs g (h4.lt g hg).2 λhx=>k7 g hg g (.inr (.inl hx)) rfl).keys zx
 ·have LW:∀g,g∈y.blks->g≠B/\g≠M/\kv.ownBlock≠Af g:=λg hg=>by
   rcases ZB g hg with h|h
   ·exact⟨λe=>b4 (e▸h),λe=>m3 (e▸h),λe=>k7 g e g (.inr (.inl h)) rfl⟩
   ·refine⟨λe=>Gv,λe=>by have:=h3.lt;omega,λe=>by have:=(h4.lt g e).2;omega⟩
  unfold Hq;simp only[Ei,Bk,Bl,Option.mem_toList,not_or,Bi,Bf];refine⟨⟨b1,b2,b3,λh=>(LW B h).1 rfl,b5⟩,⟨m1,m2,λh=>(LW M h).2.1 rfl,m4⟩,?_⟩;have hn:=OF.2;simp only[Bi,Bf]at hn;rw[Bq];refine⟨k1,hn,λu hu v hv e=>?_⟩;subst e;have YW:=Option.mem_toList.1 hu;simp only[Bl]at hv;rcases hv with hv|hv|hv
  ·exact k7 u YW u (.inl hv) rfl
  ·exact(LW u hv).2.2 YW
  ·exact k7 u YW u (.inr (.inr hv)) rfl
 ·rcases br g h with h|h
  ·exact(CU g hg).2 h
  ·have:=(CU g hg).1;omega
 ·refine hs g (CU g hg).1 λhx=>(CU g hg).2 ?_;unfold Hq;simp only[Bk,Bl,Option.mem_toList,Bi,Bf];exact .inr (.inr (.inr (.inr (.inl hx))))
def Bg9 {x:SmB} (hn:x.blks.Nodup) (hl:∀g∈x.blks,g<N) (hv:v.ownBlock=x.ve.ownBlock∨∃g,v.ownBlock=Af g/\N<=g):(⟨s,x.p,x.vp,x.vl,v⟩:SmB).blks.Nodup/\∀g∈(⟨s,x.p,x.vp,x.vl,v⟩:SmB).blks,g∈x.blks∨N<=g:=by
 unfold SmB.blks at hn hl⊢;rcases hv with hv|⟨g,hv,hg⟩
 ·simp only[hv];exact⟨hn,λg hg=> .inl hg⟩
 ·simp only[hv,Ei,Bq,Bk,Bl,Option.mem_toList,Option.some.injEq,not_or]at hn hl⊢;obtain⟨⟨a1,a2⟩,⟨c1,c2,c3⟩,c4,c5⟩:=hn;refine⟨⟨⟨a1,λe=>by have:=hl x.p (.inl rfl);omega⟩,⟨c1,c2,c3⟩,Wj _,λu hu v hv e=>by have:=hl u (.inr (.inl hu));omega⟩,λu hu=>?_⟩;rcases hu with hu|hu|hu
  ·exact .inl (.inl hu)
  ·exact .inl (.inr (.inl hu))
  ·exact .inr (hu▸hg)
def Bh0 {x:SmB} (hn:x.blks.Nodup) (hl:∀g∈x.blks,g<N) (hv:v.ownBlock=x.vl.ownBlock∨∃g,v.ownBlock=Af g/\N<=g):(⟨s,x.p,x.vp,v,x.ve⟩:SmB).blks.Nodup/\∀g∈(⟨s,x.p,x.vp,v,x.ve⟩:SmB).blks,g∈x.blks∨N<=g:=by
 unfold SmB.blks at hn hl⊢;rcases hv with hv|⟨g,hv,hg⟩
 ·simp only[hv];exact⟨hn,λg hg=> .inl hg⟩
 ·simp only[hv,Ei,Bq,Bk,Bl,Option.mem_toList,Option.some.injEq,not_or]at hn hl⊢;obtain⟨⟨⟨a1,a2⟩,a3⟩,⟨c1,c2,c3⟩,c4,c5⟩:=hn;refine⟨⟨⟨⟨a1,λe=>by have:=hl x.p (.inl rfl);omega⟩,a3⟩,⟨c1,Wj _,λu hu v hv e=>by have:=hl u (.inr (.inl (.inl hu)));omega⟩,c4,λu hu v hv e=>?_⟩,λu hu=>?_⟩
  ·rcases hu with hu|hu
   ·exact c5 u (.inl hu) v hv e
   ·have:=hl v (.inr (.inr hv));omega
  ·rcases hu with hu|(hu|hu)|hu
   ·exact .inl (.inl hu)
   ·exact .inl (.inr (.inl (.inl hu)))
   ·exact .inr (hu▸hg)
   ·exact .inl (.inr (.inr hu))
def Bh1 {x:SmB} (hn:x.blks.Nodup) (hl:∀g∈x.blks,g<N) (hv:v.ownBlock=x.vp.ownBlock∨∃g,v.ownBlock=Af g/\N<=g):(⟨s,x.p,v,x.vl,x.ve⟩:SmB).blks.Nodup/\∀g∈(⟨s,x.p,v,x.vl,x.ve⟩:SmB).blks,g∈x.blks∨N<=g:=by
 unfold SmB.blks at hn hl⊢;rcases hv with hv|⟨g,hv,hg⟩
 ·simp only[hv];exact⟨hn,λg hg=> .inl hg⟩
 ·simp only[hv,Ei,Bq,Bk,Bl,Option.mem_toList,Option.some.injEq,not_or]at hn hl⊢;obtain⟨⟨⟨a1,a2⟩,a3⟩,⟨c1,c2,c3⟩,c4,c5⟩:=hn;refine⟨⟨⟨⟨λe=>by have:=hl x.p (.inl rfl);omega,a2⟩,a3⟩,⟨Wj _,c2,λu hu v hv e=>by have:=hl v (.inr (.inl (.inr hv)));omega⟩,c4,λu hu v hv e=>?_⟩,λu hu=>?_⟩
  ·rcases hu with hu|hu
   ·have:=hl v (.inr (.inr hv));omega
   ·exact c5 u (.inr hu) v hv e
  ·rcases hu with hu|(hu|hu)|hu
   ·exact .inl (.inl hu)
   ·exact .inr (hu▸hg)
   ·exact .inl (.inr (.inl (.inr hu)))
   ·exact .inl (.inr (.inr hu))
def Au2 {id:Nat} (h:id<Hh a b):Sz a b id=true:=by
 unfold Hh at h;rw[Oq];omega
def Aq9 {id:Nat} (h:id<Hh a b):Uo a b id=((Hf a id).x,(Hf a id).y,((Hf a id).q:Int),0):=by
 unfold Uo;rw[Hc (Au2 h)];simp[Hf]
def nR (hs:okS a b=true) (hh:c<Hh a b):0<=(Hf a c).x/\(Hf a c).x<=256/\0<=(Hf a c).y/\(Hf a c).y<=256/\(Hf a c).q<=3:=by
 obtain⟨m1,m2,m3,m4,m5,m6⟩:=Mg hs;obtain⟨i1,i2⟩:=Oq.1 (Au2 hh);have e0:4*a*b=4*(a*b):=Int.mul_assoc _ _ _;have d3:=Int.emod_nonneg ((c:Int)/4) (show a≠0 by omega);have d4:=Int.emod_lt_of_pos ((c:Int)/4) (show 0<a by omega);have d5:0<=(c:Int)/4/a:=Int.ediv_nonneg Gv Gv;have d6:(c:Int)/4/a<=(c:Int)/4:=Int.ediv_le_self _ Gv;unfold Hf;dsimp only;refine⟨Gv,Gv,Gv,Gv,Gv⟩
def By8 {id e:Nat} (hs:okS a b=true) (h:id<Hh a b) (he:e<=2):
  nbr (Hf a id).x (Hf a id).y (Hf a id).q e=((Sf (Hf a id) e).1.x,(Sf (Hf a id) e).1.y,((Sf (Hf a id) e).1.q:Int),0)/\(Sf (Hf a id) e).1.ok=true:=by
 obtain⟨c1,c2,c3,c4,c5⟩:=nR hs h;obtain⟨n1,n2,n3,n4,n5,n6⟩:=fS (Hf a id).q e;have ok0:okC (Hf a id).x (Hf a id).y (Hf a id).q=true:=Jq.2 ⟨Gv,Gv,Gv,Gv,Gv⟩;have ok1:okC ((Hf a id).x+(nxt (Hf a id).q e).1) ((Hf a id).y+(nxt (Hf a id).q e).2.1) (nxt (Hf a id).q e).2.2=true:=Jq.2 ⟨Gv,Gv,Gv,Gv,Gv⟩
 have hn:nbr (Hf a id).x (Hf a id).y (Hf a id).q e=((Hf a id).x+(nxt (Hf a id).q e).1,(Hf a id).y+(nxt (Hf a id).q e).2.1,(nxt (Hf a id).q e).2.2,0):=by
  unfold nbr;rw[Ha (by rw[ok0];simp;omega)];simp only[Int.toNat_natCast,ok1,if_true]
 have hq:(((nxt (Hf a id).q e).2.2.toNat:Nat):Int)=(nxt (Hf a id).q e).2.2:=Gv;unfold Sf;rw[hn];dsimp only;exact⟨by rw[hq],by unfold Cl.ok;dsimp only;rw[hq];exact ok1⟩
def zL (m:Mv) (c:Cl):(Lj m c).1.q<=3:=by
 unfold Lj
 split
 ·rename_i h;unfold Cl.ok at h;have:=(Jq.1 h).2.2.2.2;dsimp only;omega
 ·decide
def Bn2 {id e:Nat} (h0:(nbI a b id e).2=0) (h1:(id:Int)<=(nbI a b id e).1):Ij a b id e=((id:Int),(e:Int),0):=by
 unfold Ij;rw[Hc h0,Int.min_eq_left h1]
def Sx (hs:okS a b=true):Hh a b<=1024:=by
 obtain⟨m1,m2,m3,m4,m5,m6⟩:=Mg hs;have e0:4*a*b=4*(a*b):=Int.mul_assoc _ _ _;unfold Hh;omega
def Cf0 {l:List Mv} (h:Rd w A 3 n (Nm l)) (i:Nat) (hi:i<l.length):
  ∃b o,A=Af ⟨b,o,Ae⟩/\b<w.heap.size/\w.cell? ⟨b,o+i*3,Ae⟩=Af (Aa Ac l[i].t)/\w.cell? ⟨b,o+i*3+1,Ae⟩=Af (Aa Ab l[i].x)/\w.cell? ⟨b,o+i*3+2,Ae⟩=Af (Aa Ab l[i].y):=by
 have hl:=h.1;rw[Ve]at hl;obtain⟨b,o,e,hb,hc⟩:=h.2 Gv;have bi:∀f,f<3->(Nm l)[i*3+f]? =(l[i].cells)[f]? :=λf hf=>It Mv.cells 3 Oa _ i f hi hf;exact⟨b,o,e,hb,hc (i*3+0) _ ((bi 0 Gv).trans rfl),hc (i*3+1) _ ((bi 1 Gv).trans rfl),hc (i*3+2) _ ((bi 2 Gv).trans rfl)⟩
def Az9 {l:List Cl} (h:Rd w A 3 n (Nu l)) (i:Nat) (hi:i<l.length):
  ∃b o,A=Af ⟨b,o,Ae⟩/\b<w.heap.size/\w.cell? ⟨b,o+i*3,Ae⟩=Af (Aa Ab l[i].x)/\w.cell? ⟨b,o+i*3+1,Ae⟩=Af (Aa Ab l[i].y)/\w.cell? ⟨b,o+i*3+2,Ae⟩=Af (Aa Ac l[i].q):=by
 have hl:=h.1;rw[Om]at hl;obtain⟨b,o,e,hb,hc⟩:=h.2 Gv;have bi:∀f,f<3->(Nu l)[i*3+f]? =(l[i].cells)[f]? :=λf hf=>It Cl.cells 3 Po _ i f hi hf;exact⟨b,o,e,hb,hc (i*3+0) _ ((bi 0 Gv).trans rfl),hc (i*3+1) _ ((bi 1 Gv).trans rfl),hc (i*3+2) _ ((bi 2 Gv).trans rfl)⟩
structure sO (k:Lk) (N:Nat):Prop where
 n:N=Hh k.a k.b
 ms:k.ms.length=N
 is:k.is.length=N
 hs:k.hs.length=N
 mok:∀m∈k.ms,m.ok=true
 cok:∀c∈k.is,c.ok=true
 pat:Lo k.a k.b k.cr
structure LkV where
 cA:Option Cj
 nc:Nat
 cc:Nat
 pA:Option Cj
 pc:Nat
 iA:Option Cj
 ic:Nat
 hA:Option Cj
 hc:Nat
def LkV.fix (v:LkV) (k:Lk) (N:Nat):List Ak:=[Aa Ab k.a,Aa Ab k.b,Ad v.cA v.nc v.cc,Ad v.pA N v.pc,Ad v.iA N v.ic,Ad v.hA N v.hc]
def Yh (O:Nat) (F:List Nat) (w:Aj) (k:Lk) (N:Nat) (v:LkV):Prop:=
 ∀w',Frm O F w w'->v.nc=k.cr.length/\Rd w' v.cA 3 v.nc (crs k.cr)/\Rd w' v.pA 3 N (Nm k.ms)/\Rd w' v.iA 3 N (Nu k.is)/\Rd w' v.hA 1 N (Ih k.hs)/\Qf w'/\Tn w'
def Yh.frm {v:LkV} (h:Yh O F w k N v) (hf:Frm O F w w'):Yh O F w' k N v:=λw2 h2=>h w2 (hf.trans h2)
def Frm.refl (O:Nat) (F:List Nat) (w:Aj):Frm O F w w:=⟨Ag _ _,λ_ _=>rfl⟩
def xY (O B:Nat) (F:List Nat) (fix:List Ak) (l':List Sm) (w:Aj) (e:Ending) (w':Aj):Prop:=
 e= .returned (.tuple #[])/\∃l2,l2.map (·.s)=l'/\Il O B F fix w' l2/\Frm O F w w'
def Il.keys {fix:List Ak} {l:List SmB} (h:Il O B F fix w l):(l.map SmB.key).Nodup:=by
 obtain⟨M,kv,_,_,_,_,_,h6,_⟩:=h;exact h6
def Il.sms {fix:List Ak} {l:List SmB} (h:Il O B F fix w l):Oi O w l:=by
 obtain⟨M,kv,_,_,_,_,h5,_⟩:=h;exact h5
def Bm4 {id e:Nat} {l l1 l2:List SmB} {x y:SmB} (hk:x.key=k.key id e) (hc:l=l1++x::l2∨(l=l1/\l2=[]/\k.key id e∉l.map SmB.key/\x.s=Sm.none (k.key id e).1 (k.key id e).2)) (ca:((l1++x::l2).map SmB.key).Nodup)
  (hy:y.s=k.add id e x.s):(l1++y::l2).map (·.s)=k.meet id e (l.map (·.s)):=by
 have iz:∀z:SmB,z.s.a=(k.key id e).1/\z.s.b=(k.key id e).2↔z.key=k.key id e:=λz=>by
  unfold SmB.key;rw[Prod.ext_iff]
 unfold Lk.meet;rcases hc with rfl|⟨rfl,rfl,hne,hx⟩
 ·rw[Ez,Es,Ez,Es,hy];refine(An7 ?_ ((iz x).2 hk)).symm;intro s hs hh;obtain⟨z,hz,rfl⟩:=Dr.1 hs;have hzk:=(iz z).1 hh;rw[Ez,Es,Bq]at ca;exact ca.2.2 _ (Dr.2 ⟨z,hz,rfl⟩) _ (List.mem_cons_self) (hzk.trans hk.symm)
 ·rw[Ez,An6]
  ·simp only[Es,List.map_nil,hy,hx]
  ·intro s hs hh;obtain⟨z,hz,rfl⟩:=Dr.1 hs;exact hne (Dr.2 ⟨z,hz,(iz z).1 hh⟩)
end Go.Proofs.YtlgkpdfieaadaaaGreatDoor
