import Derived.Test.YtlgkpdfieaadaaaGreatDoorROvi
set_option linter.all false
open And renaming intro->Cn
open Go renaming Addr->Cj,Calls->Al,TypeId->Ck,Value->Ak,World->Aj,bodyPost_ret->Ai,cell_of_row->Bz,heap_alloc_new->Ca,wpAnyH_done->An,wpAnyH_ready->Ap,wp_region_held_drew->Ao
open Go.AllReadyH renaming cons->Aq,nil->Ar
open Go.IntKind renaming i64->Ab,u8->Ac
open Go.Lib renaming hid->Ah,wpList_append_run->As
open Go.Proofs.Tryz renaming prog->Dp
open Go.RowKit.Below renaming heap_alloc->Eh,heap_setCell->Dq,refl->Ag
open Go.Value renaming int->Aa,slice->Ad,oneCell'->Do,ownBlock->Dx
open List renaming append_assoc->Bj,append_nil->Ff,getD_eq_getElem?_getD->Dt,getElem?_eq_getElem->Aw,getElem?_map->Fs,getElem_cons_succ->Ce,getElem_cons_zero->Cd,getElem_mem->Ay,getElem_toArray->Cf,length_append->Bh,length_eq_zero_iff->Et,length_map->Bp,map_append->Ez,map_map->Ft,mem_append->Bl,mem_iff_getElem->Be,mem_map->Dr,nil_append->Eu,pairwise_map->Fc,range->Ds,replicate->Ba,setIfInBounds_toArray->Ci,set_append_right->Gh,set_cons_succ->Ch,set_cons_zero->Cg,take_of_length_le->Bg,take_succ_eq_append_getElem->Bc
open Nat renaming add_zero->Df,le_refl->Am,le_trans->Bt,mul_one->Dc,sub_self->Fo,zero_add->Bu
open Option renaming none->Ae,some->Af
set_option maxHeartbeats 32000000
set_option maxRecDepth 100000
namespace Go.Proofs.YtlgkpdfieaadaaaGreatDoor
open Go.RowKit Go.Sort
variable {w w' w1 w2 wr Y W:Aj} {v:Ak} {A' A pA:Option Cj} {zl:List SkR} {O n c m b g b' pn pc N R T:Nat} {l l1 l2 mv:List Stk} {D l':List SkE} {e t tf:Ck} {xs cs:List Ak} {s:St} {a1 a2:Int} {sv fv:Array Ak}
def Bg0 (l:List Stk) (w:Aj) (e:Ending) (w':Aj):Prop:=∃A c zl,e= .returned (Ad A l.length l.length)/\Ia w.heap.size w' (Ad A l.length c) zl/\zl.map (·.1)=l/\Below w.heap.size w w'
def Ia.cloned {O O2 n c2:Nat} (h:Ia O w v zl) (hb:Below w.heap.size w w') (hO:O2<=O) (hr:w'.ownsRow O2 92 4 (Ad A' n c2) zl.length (zl.flatMap Jc)):Ia O2 w' (Ad A' n c2) zl:=
 ⟨hr,λx hx=>((h.below hb).2.1 x hx).base hO,h.2.2⟩
def Ia.stksN (h:Ia O w (Ad A n c) zl) (hl:zl.map (·.1)=l):Ib w A l:=hl▸h.stks
def rP:∀(zl:List SkR),(∀x∈zl,x.1.c.q<=255)->∃D:List SkE,D.map (·.1)=zl
 |[],_=>⟨[],rfl⟩
 |x::r,h=>by
  obtain⟨D,hD⟩:=rP r λy hy=>h y (by simp[hy]);exact⟨⟨x,h x Gy⟩::D,by rw[List.map_cons,hD]⟩
def rO (D:List SkE):D.flatMap skV=(D.map (·.1)).flatMap Jc:=by
 rw[List.flatMap_map];rfl
def mG (h:Ia O w (Ad A m c) zl) (hm:m=zl.length) (hD:D.map (·.1)=zl) (hp:l'.Perm D) (hs:l'.Pairwise λp q=>ltOf rN q p=false)
  (ho:w'.ownsRow O 92 4 (Ad A m c) m (l'.flatMap skV)) (hg:w.grownBy w' (Dx (Ad A m c))) (hn:((zl.map (·.1)).map (·.c)).Nodup):
  ∃z2:List SkR,z2.length=m/\z2.map (·.1)=No (zl.map (·.1))/\Ia O w' (Ad A m c) z2:=by
 have IK:(l'.map (·.1)).Perm zl:=hD▸hp.map (·.1);have hl:(l'.map (·.1)).length=m:=by rw[IK.length_eq,hm]
 refine⟨l'.map (·.1),hl,?_,h.perm IK (by rw[hl,<-rO];exact ho) hg⟩;refine mT (IK.map (·.1)) ?_ hn;rw[Fc,Fc];refine hs.imp λ{p q} hh=>?_;rw[Bl8,Rt]at hh;exact hh
def fU (A1 A2:Option Cj) (l1 l2:List Stk) (n1 n2 c1 c2:Nat) (w:Aj) (h1:Ib w A1 l1) (h2:Ib w A2 l2) (e1:n1=l1.length) (e2:n2=l2.length) (b1:n1<=10000) (b2:n2<=10000) (ht:Jw (l1++l2)<=100000) (hq:∀x∈l1++l2,x.c.q<=255):
  Al Dp 64 #[Ad A1 n1 c1,Ad A2 n2 c2] w (Bg0 (Kc l1 l2) w):=by
 have ya:=Zz w (λw' hb (sb:Nat) (hs:sb<w'.heap.size) (q1:w'.cell? ⟨sb,0,Ae⟩=Af (Ad A1 n1 c1)) (q2:w'.cell? ⟨sb,0+1,Ae⟩=Af (Ad A2 n2 c2))=>gW sb 0 A1 A2 l1 l2 n1 n2 c1 c2 2 w' hs q1 q2 (h1.below hb) (h2.below hb) e1 e2 Gv Gv);have HLF:Hid (Kc l1 l2=No (Lf (l1++l2))):=Ah rfl;rw[HLF.out];clear HLF;have hLn:(l1++l2).length=n1+n2:=by rw[Bh,e1,e2]
 obtain⟨L,hL⟩:=ey (l1++l2);rw[hL]at ya ht hq hLn⊢;obtain⟨n,hn⟩:=ey L.length;have eh:n<=20000:=Gv;have HN:=Ah hn;have HT:=Ah ht;have HQ:=Ah hq;obtain⟨M,hM⟩:=ey w.heap.size;have HMw:=Ah hM;have ju:(Instr.makeMap 206 Ae).run Dp w= .ok (.map (Af w.heap.size)) (w.alloc (.map #[] 0)):=by first|rfl|simp[Instr.makeMap]
 have QX:=Wf clK w;have lh:=(Ag w.heap.size w).alloc (Am _) (.map #[] 0);rw[hM]at ju QX;clear h1 h2 e1 e2 b1 b2 ht hq hL hLn;go_in;go_upto_region 2 with fail
 try rw[hM]
 generalize w.alloc _=W0 at QX lh⊢;clear ju;have hM0:=QX.lt;obtain⟨SB,XM⟩:=ey W0.heap.size;have cg:=(Ag W0.heap.size W0).alloc (Am _) (.cells #[Ad A1 n1 c1,Ad A2 n2 c2] 31);have aj:=lh.alloc lh.size (.cells #[Ad A1 n1 c1,Ad A2 n2 c2] 31);have hcat:=ya.out _ aj SB (by rw[<-XM];simp) (by rw[<-XM];exact(Hm (Ca W0 _)).1.1) (by rw[<-XM];exact(Hm (Ca W0 _)).1.2);have hmd2:=QX.below cg hM0;have gj:=Ah hmd2;have oz:=Ah aj;clear ya cg aj hmd2 QX lh;go_wp2_with fail;refine hcat.mono ?_;rintro ee w3 ⟨A,c,rfl,bo,bh⟩;have lg:=gj.out.below bh gj.out.lt;have hMO:=lg.lt
 have UU:∃es c,w3.heap[M]? =Af (Obj.map es c):=by
  obtain⟨es,c,h,-⟩:=lg;exact⟨es,c,h⟩
 have de:Below w.heap.size w w3:=Up oz.out bh;obtain⟨O,hO⟩:=ey w3.heap.size;rw[hO]at hMO;have j9:Hid (OvI O M w3 w3 (Ad Ae 0 0) []):=Ah ⟨Ia.nil _ _,Gy,lg,Off.refl _ _ _,Nat.le_of_eq hO.symm,hMO⟩;have dx:=Ah (λ(wr:Aj) (k:Off O M w3 wr)=>bo.off (Nat.le_of_eq hO) k UU);have wz:=Ah de;have EA:Hid (w.heap.size<=O):=Ah (oHx de.size);rw[hn];clear hcat bo bh lg hMO UU de hO gj oz XM hM0 hM;go_wp2
 go_loopw [18,6] (λFW s6 wr=>∃(k m9 c9:Nat) (A9:Option Cj),k<=n/\FW= Aa Ab k/\s6= Ad A9 m9 c9/\m9<=k/\Hid (∃zl:List SkR,zl.length=m9/\zl.map (·.1)=Lf (L.take k)/\OvI O M w3 wr (Ad A9 m9 c9) zl)) (λFW _ _=>n-(intOf FW).toNat)
 case atStart=>exact⟨0,0,0,Ae,Gv,rfl,rfl,Am _,Ah ⟨[],rfl,rfl,j9.out⟩⟩
 obtain⟨k,m9,c9,A9,hk,rfl,rfl,UT,HZ⟩:=hrel;clear j9;by_cases ac:k<n
 ·have be:k<L.length:=oHx HN.out;have q0:(k:Int)<(n:Int):=Gv;obtain⟨zl,ld,ZF,RI⟩:=HZ.out;obtain⟨bb,o',A',c',TD,cj,⟨d0,d1,d2,d3⟩,du,hle,jb,ba⟩:=(dx.out _ RI.off).get k be;have br:=Ay be;have dq:=Bt (Rk br) HT.out;have kg:=vW L k be;obtain⟨⟨⟨x0,x1,x2⟩,ids⟩,hx⟩:∃z,L[k]=z:=⟨_,rfl⟩;simp only[hx]at d0 d1 d2 d3 dq ba du hle kg;obtain⟨m,hm⟩:=ey ids.length;rw[hm]at d3 dq ba du hle;have gj:=Ah hm;have xd:=Ah kg;have dt:=Ah ba;obtain⟨X,hX⟩:=ey wr.heap.size;have H:=(Bx.start wr).new #[x0,x1,Aa Ac x2,Ad A' m c'] 92 hX;have C5:=Ah RI;have HZG:=Ah ZF;have GM:=Ah ld;subst TD;clear kg ba hx hm br RI ZF ld HZ;go_upto_region 6 with fail
  try rw[hX]
  generalize wr.alloc _=W5 at H⊢;clear d0 d1 d2 d3;obtain⟨⟨e0,e1,e2,e3⟩,-⟩:=Jh (H.b 0);have CP:=Ah (C5.out.below H.below);by_cases JX:m=0
  ·subst JX
   have hG:Lf (L.take (k+1))=Lf (L.take k):=by
    rw[xd.out,Hc];have:=Et.1 gj.out;subst this;rfl
   have HR:Hid (∃zl:List SkR,zl.length=m9/\zl.map (·.1)=Lf (L.take (k+1))/\OvI O M w3 W5 (Ad A9 m9 c9) zl):=Ah ⟨zl,GM.out,by rw[hG];exact HZG.out,CP.out⟩;clear hG;go_wp2;exact⟨⟨k+1,m9,c9,A9,Gv,by go_num,rfl,Gv,HR⟩,by simp[intOf];omega⟩
  ·have C8:∃ab ao,A'=Af ⟨ab,ao,Ae⟩:=by
    rcases du with⟨-,h0,-⟩|h
    ·exact absurd h0 JX
    ·exact h
   obtain⟨ab,ao,rfl⟩:=C8;have q1:((m:Int)==0)=false:=by simpa using JX
   have hG:Lf (L.take (k+1))=Nd ⟨⟨x0,x1,x2⟩,ids⟩ (Lf (L.take k)):=by
    rw[xd.out,Ha];intro hh;have:ids=[]:=by simpa using hh
    exact JX (by rw[<-gj.out,this];rfl)
   rw[<-HZG.out]at hG;have HG:=Ah hG;have UR:=We yJ Tryz.underlying206 (et:=3) (z:= Aa Ab 0) (λw=>Gx) CP.out.mp ⟨x0,x1,x2⟩ true;rw[At7]at UR;have ME:=Ah JX;clear hG du JX
   cases hp:Tj (⟨x0,x1,x2⟩:Cl) (zl.map (·.1)) 0 with
   |some i=>
    rw[hp]at UR;simp only[if_true,Option.map_some,Option.getD_some,Option.isSome_some]at UR;unfold clK at UR;dsimp only at UR;obtain⟨bv,UO⟩:=wD hp;have bv:i<zl.length:=by simpa using bv
    have UO:zl[i].1.c=⟨x0,x1,x2⟩:=by simpa using UO
    have ft:Nd ⟨⟨x0,x1,x2⟩,ids⟩ (zl.map (·.1))=(zl.map (·.1)).set i ⟨⟨x0,x1,x2⟩,zl[i].1.ls++ids⟩:=by
     obtain⟨_,h2⟩:=sX (x:=⟨⟨x0,x1,x2⟩,ids⟩) hp;rw[h2];simp
    have ZN:=Ah ft;have HIC:=Ah UO;have uu:i<m9:=by rw[<-GM.out];exact bv
    have q2:(i:Int)<(m9:Int):=Gv;clear hp UO ft uu
    have hnez:0<zl[i].1.ls.length:=by
     have h1:=qH (L.take k);rw[<-HZG.out]at h1;exact List.length_pos_iff.2 (h1 _ (Dr.2 ⟨zl[i],Ay bv,rfl⟩))
    have htz:zl[i].1.ls.length+m<=1000000:=by
     have h1:zl[i].1.ls.length<=Jw (zl.map (·.1)):=Rk (Dr.2 ⟨zl[i],Ay bv,rfl⟩);rw[HZG.out,Yf]at h1;have h2:=An3 L k;have h3:=HT.out;omega
    go_upto_region 9 with fail;obtain⟨S,an,HSO⟩:=Og λW'=>W'.cell? ⟨X,3,Ae⟩=Af (Ad (Af ⟨ab,ao,Ae⟩) m c')
    have ag:Hid (∀W',W'.heap[X]? =W5.drew.heap[X]? ->S W'):=Ah λW' h=>by
     subst an;show W'.cell? ⟨X,3,Ae⟩=_;unfold World.cell? at e3⊢;rw[h];exact e3
    have NB:X<W5.drew.heap.size:=H.lt 0 rfl;have l8:=Ah (CP.out.below (Ag W5.heap.size W5).drew);have HRY:=Ah (dt.out.below (H.below.trans ((Ag wr.heap.size W5).drew)));refine Ao (S:=S) Gx (ag.out _ rfl) (λhS=>?_);generalize W5.drew=Y at hS l8 HRY ag NB⊢;have di:=l8.out.out.2.1 zl[i] (Ay bv);obtain⟨G,sr,hm9z,rm,hGs,-,-,-,g3⟩:=l8.out.out.elem i bv;obtain⟨A2,k2,w8,ah,hx8,NL,GZ,hA8⟩:=Ap7 di (l8.out.cap zl[i] (Ay bv)) l8.out.top hnez ⟨ab,ao,Ae⟩ m c' ids gj.out HRY.out htz;subst sr;obtain⟨xu,⟨u8,hu8⟩,hf8⟩:=l8.out.poke bv ids A2 k2 hx8 NL GZ hA8
    have hXx:∀g,zl[i].2.1.map (·.block)=Af g->g≠X:=λg hg=>by
     have:=((C5.out.out.2.1 zl[i] (Ay bv)).lt g (by unfold Kk;rw[hg];simp)).2.1;omega
    have xm:w8.heap[X]? =Y.heap[X]? :=GZ.block X NB λe=>hXx X e.symm rfl
    have hGX:X≠G:=by
     have h1:=(C5.out.out.1.lt G rfl).2;omega
    have pz:=Ah (ag.out _ xm);rw[show(zl[i].1.ls++ids).length=zl[i].1.ls.length+m by rw[Bh,gj.out]]at xu;have ui:=Ah (ag.out (w8.setCell ⟨G,i*4+3,Ae⟩ (Ad A2 (zl[i].1.ls.length+m) k2)) ((Dq w8 ⟨G,i*4+3,Ae⟩ _ X hGX).trans xm));have bf:=Ah ah;have aw:Hid (∃z2:List SkR,z2.length=m9/\z2.map (·.1)=Lf (L.take (k+1))/\OvI O M w3 (w8.setCell ⟨G,i*4+3,Ae⟩ (Ad A2 (zl[i].1.ls.length+m) k2)) (Ad (Af ⟨G,0,Ae⟩) m9 c9) z2):=Ah ⟨_,by rw[List.length_set];exact GM.out,by rw[List.map_set,HG.out,ZN.out,HIC.out],xu⟩;obtain⟨nz,YH⟩:=ey (zl[i].1.ls.length);obtain⟨Az,hAz⟩:=ey (zl[i].2.1);obtain⟨kz,OA⟩:=ey (zl[i].2.2);rw[YH]at aw ui;rw[YH,hAz,OA]at g3 bf;clear di hx8 NL GZ hA8 xu hXx xm ah YH hAz OA ag HRY hnez htz rm hGs hm9z l8 NB;refine Hk 0 1 2 3 ?_;refine Hk 4 5 7 8 ?_;refine rdy 6 (λK hK=>?_);go_simp;refine hK.o hS (λhS=>?_);clear hK K g3;refine rdy 9 (λK hK=>?_);refine Jv (by simp[Region.wanted]) (.tmp 40) (.tmp 42) 38 rfl _ _ Qo Qo _ _ bf.out ?_;refine hK.o pz.out (λhS=>?_);clear hK K;refine Ql 10 11 ?_;refine rdy 12 (λK hK=>?_);go_simp;refine hK.o ui.out (λhS=>?_);clear hK K hS;refine An Gx ?_ _;go_wp2;exact⟨⟨k+1,m9,c9,Af ⟨G,0,Ae⟩,Gv,by go_num,rfl,Gv,aw⟩,by simp[intOf];omega⟩
   |none=>
    rw[hp]at UR;simp only[if_true,Option.map_none,Option.getD_none,Option.isSome_none]at UR;unfold clK at UR;dsimp only at UR;have ft:=(Sq (x:=⟨⟨x0,x1,x2⟩,ids⟩) hp).1;have ZN:=Ah ft;have HP:=Ah hp;have UV:=CP.out.mp
    have CZ:X≠M:=by
     have h1:=C5.out.low;have h2:=C5.out.top;omega
    clear hp ft;go_wp2_with (at_mapUpdate;refine Sl yJ Tryz.underlying206 _ rfl _ _ _ rfl M (Mf (zl.map (·.1)) 0) ⟨x0,x1,x2⟩ (Aa Ab (m9:Int)) rfl rfl rfl UV ?_;intro w9 ur BT;have hX9:w9.heap[X]? =W5.heap[X]? :=BT.block X (H.lt 0 rfl) (by simpa using CZ);clear e0 e1 e2 e3;obtain⟨⟨e0,e1,e2,e3⟩,-⟩:=Jh (hX9.trans (H.b 0)));have hsz5:=C5.out.top;have db:=H.below;have hXX:X<W5.heap.size:=H.lt 0 rfl;have hrd9:=dt.out.off (O:=wr.heap.size) (Am _) (((Off.refl wr.heap.size M wr).below db).put db.size BT) (by obtain⟨es,cl,h,-⟩:=C5.out.mp;exact⟨es,cl,h⟩);refine(Rb ⟨x0,x1,x2⟩ (Af ⟨ab,ao,Ae⟩) ids m c' w9 gj.out.symm (.inr ⟨ab,ao,rfl⟩) hrd9 Gv).mono ?_;rintro ee on ⟨A10,rfl,hA10,om,gm⟩;dsimp only;have ru:Ia O w9 (Ad A9 m9 c9) zl:=CP.out.out.lowM λg h1 h2=>BT.block g h2 (by have:=CP.out.low;simp;omega);have um:O<=w9.heap.size:=Bt CP.out.top BT.size;have V0:Nj w9.heap.size on (⟨⟨x0,x1,x2⟩,ids⟩,(A10,ids.length)):=⟨hA10,Am _,by show ids.length<=maxLen;have:=gj.out;unfold maxLen;omega,om⟩;have K9:Um on (⟨⟨x0,x1,x2⟩,ids⟩,(A10,ids.length)):=Um.clip om;obtain⟨A11,c11,A12,c12,RP,hv,ah,ho12,-,hg12,hO12,-⟩:=ru.app um gm V0 (oHx GM.out);obtain⟨rfl,-,rfl⟩:A9=A11/\m9=zl.length/\c9=c11:=by simpa using hv
    have xu:=CP.out.snoc HP.out (by rw[GM.out];exact ur) BT gm V0 K9 ho12 hg12;rw[GM.out]at xu ah;simp only[gj.out]at xu ah;have bf:=Ah ah;have aw:Hid (∃z2:List SkR,z2.length=m9+1/\z2.map (·.1)=Lf (L.take (k+1))/\OvI O M w3 RP (Ad A12 (m9+1) c12) z2):=Ah ⟨_,by rw[Bh,GM.out];rfl,by rw[Ez,HG.out,ZN.out];rfl,xu⟩;rw[gj.out];clear hv ah ho12 hg12 hO12 xu V0 K9 ru hA10 om hrd9 ur BT hX9 e0 e1 e2 e3 gm;go_wp2_with (at_builtin;refine As _ rfl _ _ _ _ rfl _ _ rfl rfl _ _ bf.out ?_);go_wp2;exact⟨⟨k+1,m9+1,c12,A12,Gv,by go_num,rfl,Gv,aw⟩,by simp[intOf];omega⟩
 ·obtain⟨W1,rfl⟩:=ez wr;obtain rfl:k=n:=Gv;have q0:¬(k:Int)<(k:Int):=Gv;obtain⟨zl,ld,ZF,RI⟩:=HZ.out;have ht:L.take k=L:=Bg (oHx HN.out);rw[ht]at ZF
  have hq:∀x∈zl,x.1.c.q<=255:=λx hx=>by
   have hm:x.1∈Lf L:=ZF▸Dr.2 ⟨x,hx,rfl⟩;exact Uz L (λc=>c.q<=255) HQ.out _ hm
  obtain⟨D,hD⟩:=rP zl hq;have aa:=RI.out.1;rw[ld,<-hD,<-rO]at aa;have qz:=Ah (rV D W1 aa Gv);have ci:Below w.heap.size w W1:=RI.off.back wz.out EA.out (by rw[HMw.out];exact Am _);obtain⟨F,hF⟩:=ey (No (Lf L))
  have hFB:∀x∈F,x.ls.length<=100000:=λx hx=>by
   have h1:x∈Lf L:=(Jd _).mem_iff.1 (hF▸hx);have h2:=Rk h1;rw[Yf]at h2;exact Bt h2 HT.out
  have HFB:=Ah hFB
  have aw:Hid (∀w4,(∃l':List SkE,l'.Perm D/\l'.Pairwise (λp q=>ltOf rN q p=false)/\w4.ownsRow O 92 4 (Ad A9 m9 c9) m9 (l'.flatMap skV)/\W1.grownBy w4 (Dx (Ad A9 m9 c9)))->∃z:List SkR,z.length=m9/\z.map (·.1)=F/\Ia O w4 (Ad A9 m9 c9) z/\Below w.heap.size w w4/\O<=w4.heap.size):=Ah (by
   rintro w4 ⟨l',hp,hs,ho,hg⟩;obtain⟨z2,bw,qi,ZD⟩:=mG RI.out ld.symm hD hp hs ho hg (by rw[ZF];exact Vg L);have XS:=ci.size;exact⟨z2,bw,by rw[qi,ZF,hF],ZD,ci.grown hg XS (λg M3=>Bt EA.out (RI.out.1.lt g M3).1),Bt RI.top hg.size⟩)
  have HF:=Ah hF;clear ld ZF RI ht hq hD aa ci hF hFB dx wz HZ zl;go_wp2_with fail;refine qz.out.mono ?_;rintro ee w4 ⟨rfl,AY⟩;have HZ:=Ah (aw.out w4 AY);clear AY aw qz;go_wp2
  go_loopw [61] (λPJ wr=>∃j:Nat,j<=m9/\PJ= Aa Ab j/\Hid (∃z:List SkR,z.length=m9/\z.map (·.1)=F/\Ia O wr (Ad A9 m9 c9) z/\Below w.heap.size w wr/\O<=wr.heap.size)) (λPJ _=>m9-(intOf PJ).toNat)
  case atStart=>exact⟨0,Gv,rfl,HZ⟩
  obtain⟨j,hj,rfl,ki⟩:=hrel;clear HZ;by_cases ac:j<m9
  ·have q0:(j:Int)<(m9:Int):=Gv;obtain⟨z,ap,bw,qi,ZD,ZE⟩:=ki.out;have me:j<z.length:=Gv;obtain⟨G,rfl,-,rm,hGs,g0,g1,g2,g3⟩:=qi.elem j me;have hk:=qi.2.1 z[j] (Ay me);have hmF:z[j].1∈F:=bw▸Dr.2 ⟨z[j],Ay me,rfl⟩;have hlb:=HFB.out _ hmF
   have mi:∀y:SkR,y.1=z[j].1->(z.set j y).map (·.1)=F:=λy hy=>by
    rw[List.map_set,hy,<-bw];have e:z[j].1=(z.map (·.1))[j]'(by simpa using me):=by rw[List.getElem_map]
    rw[e,List.set_getElem_self]
   obtain⟨⟨⟨⟨x0,x1,x2⟩,ids⟩,A6,k6⟩,hx⟩:∃y,z[j]=y:=⟨_,rfl⟩;rw[hx]at g0 g1 g2 g3 hk hlb mi;obtain⟨o_,O6,hcm6,IP⟩:=hk;dsimp only at g0 g1 g2 g3 o_ O6 hcm6 IP hlb mi;obtain⟨m,hm⟩:=ey ids.length;rw[hm]at g3 o_ O6 IP hlb;have gj:=Ah hm;have CI:=Ah (Rb ⟨x0,x1,x2⟩ A6 ids m k6 wr hm.symm o_ IP.rd Gv);have HSM:=Ah mi;have GK:=Ah qi;have C4:=Ah ZD;have HZ5:=Ah ZE;have HJL:=Ah me;have pj:=Ah ap;have hGw:w.heap.size<=G:=Bt EA.out rm;have ZZ:=Ah hGw;clear ap bw qi ZD ZE me mi o_ O6 hcm6 IP hmF hx hm ki rm hGs hGw;go_wp2_with fail;refine CI.out.mono ?_;rintro ee w6 ⟨ZM,rfl,sr,bn,bg⟩;dsimp only;have jp:Nj wr.heap.size w6 (⟨⟨x0,x1,x2⟩,ids⟩,(ZM,ids.length)):=⟨sr,Am _,by show ids.length<=maxLen;have:=gj.out;unfold maxLen;omega,bn⟩;obtain⟨df,dg,dl⟩:=Zk GK.out (i:=j) HJL.out bg jp HZ5.out;have mj:=HSM.out (⟨⟨x0,x1,x2⟩,ids⟩,(ZM,ids.length)) rfl;rw[gj.out]at dl mj⊢;dsimp only at dl;obtain⟨v0,g0⟩:=df 0 Gv;obtain⟨v1,g1⟩:=df 1 Gv;obtain⟨v2,g2⟩:=df 2 Gv;obtain⟨v3,g3⟩:=df 3 Gv;rw[Df]at g0;have z0:=dg (j*4);have z1:=dg (j*4+1);have z2:=dg (j*4+2);have z3:=dg (j*4+3);have bc:=Up C4.out bg;have lm:=ZZ.out;have QM:Below w.heap.size w ((((w6.setCell ⟨G,j*4,Ae⟩ (Aa Ab x0)).setCell ⟨G,j*4+1,Ae⟩ (Aa Ab x1)).setCell ⟨G,j*4+2,Ae⟩ (Aa Ac x2)).setCell ⟨G,j*4+3,Ae⟩ (Ad ZM m m)):=(((bc.setCell (p:=⟨G,j*4,Ae⟩) lm _).setCell (p:=⟨G,j*4+1,Ae⟩) lm _).setCell (p:=⟨G,j*4+2,Ae⟩) lm _).setCell (p:=⟨G,j*4+3,Ae⟩) lm _
   have gg:O<=((((w6.setCell ⟨G,j*4,Ae⟩ (Aa Ab x0)).setCell ⟨G,j*4+1,Ae⟩ (Aa Ab x1)).setCell ⟨G,j*4+2,Ae⟩ (Aa Ac x2)).setCell ⟨G,j*4+3,Ae⟩ (Ad ZM m m)).heap.size:=by
    have h1:=HZ5.out;have h2:=bg.size;simp;omega
   have ED:Hid (∃z:List SkR,z.length=m9/\z.map (·.1)=F/\Ia O ((((w6.setCell ⟨G,j*4,Ae⟩ (Aa Ab x0)).setCell ⟨G,j*4+1,Ae⟩ (Aa Ab x1)).setCell ⟨G,j*4+2,Ae⟩ (Aa Ac x2)).setCell ⟨G,j*4+3,Ae⟩ (Ad ZM m m)) (Ad (Af ⟨G,0,Ae⟩) m9 c9) z/\Below w.heap.size w ((((w6.setCell ⟨G,j*4,Ae⟩ (Aa Ab x0)).setCell ⟨G,j*4+1,Ae⟩ (Aa Ab x1)).setCell ⟨G,j*4+2,Ae⟩ (Aa Ac x2)).setCell ⟨G,j*4+3,Ae⟩ (Ad ZM m m))/\O<=((((w6.setCell ⟨G,j*4,Ae⟩ (Aa Ab x0)).setCell ⟨G,j*4+1,Ae⟩ (Aa Ab x1)).setCell ⟨G,j*4+2,Ae⟩ (Aa Ac x2)).setCell ⟨G,j*4+3,Ae⟩ (Ad ZM m m)).heap.size):=Ah ⟨_,by rw[List.length_set];exact pj.out,mj,dl,QM,gg⟩;clear df dg dl mj QM gg bc lm bg bn sr jp;go_wp2;exact⟨⟨j+1,Gv,by go_num,ED⟩,by simp[intOf];omega⟩
  ·obtain rfl:j=m9:=Gv;have q0:¬(j:Int)<(j:Int):=Gv;obtain⟨z,ap,bw,qi,ZD,ZE⟩:=ki.out;have aa:=qi.1;rw[ap]at aa;obtain⟨A',c',hv,du,-,-⟩:=Mi aa;obtain⟨rfl,rfl⟩:A9=A'/\c9=c':=by simpa using hv
   have IT:=Ah (Ar8 A9 j c9 (z.flatMap Jc) wr du (Rd.of_own aa) (gO z) Gv);have GK:=Ah qi;have C4:=Ah ZD;have pj:=Ah ap;have ki:=Ah bw;clear ap bw qi ZD ZE aa hv du;go_wp2_with fail;refine IT.out.mono ?_;rintro ee w7 ⟨v7,rfl,tq,dc⟩;obtain⟨A7,c7,rfl,-,hle7,hcm7⟩:=Mi tq;have HO7:=Ah tq;clear tq;go_wp2_with fail;refine(kV A7 j c7 w7 hle7 hcm7).mono ?_;rintro ee w8 ⟨rfl,og⟩;go_wp2;go_ret;have hFl:F.length=j:=by rw[<-ki.out,Bp,pj.out]
   rw[HF.out];have hwz:=C4.out.size;refine⟨A7,c7,z,by rw[hFl];rfl,?_,ki.out,(Up C4.out dc).trans (og.mono (Bt C4.out.size dc.size))⟩;have h7:=GK.out.cloned dc EA.out (by rw[pj.out];exact Nn HO7.out hwz);rw[hFl];exact h7.below og
structure Hi (b:Nat) (w w':Aj):Prop where
 size:w.heap.size<=w'.heap.size
 blk:∀k,b<=k->k<w.heap.size->w'.heap[k]? =w.heap[k]?
def Hi.refl (b:Nat) (w:Aj):Hi b w w:=⟨Am _,λ_ _ _=>rfl⟩
def Hi.trans (h:Hi b w w1) (h2:Hi b w1 w2):Hi b w w2:=
 ⟨Bt h.size h2.size,λk hk hl=>(h2.blk k hk (Nat.lt_of_lt_of_le hl h.size)).trans (h.blk k hk hl)⟩
def Hi.of (h:Below w.heap.size w w'):Hi b w w':=⟨h.size,λk _ hl=>h.block k hl⟩
def Hi.set (hg:g<b) (w:Aj) (j:Nat) (v:Ak):Hi b w (w.setCell ⟨g,j,Ae⟩ v):=
 ⟨Gy,λk hk _=>Dq w ⟨g,j,Ae⟩ v k (by show k≠g;omega)⟩
def Ay8 {b O sz n:Nat} (h:w.ownsRow O e sz v n xs) (hO:b<=O) (hk:Hi b w w'):w'.ownsRow O e sz v n xs:=
 ⟨h.1,h.2.imp id λ⟨g,cap,cur,r1,r2,r3,r⟩=>⟨g,cap,cur,r1,r2,(hk.blk g (Bt hO r2) (Array.getElem?_eq_some_iff.1 r3).1).trans r3,r⟩⟩
def Ia.hi {l:List SkR} (h:Ia O w v l) (hO:b<=O) (hk:Hi b w w'):Ia O w' v l:=
 ⟨Ay8 h.1 hO hk,λx hx=>(h.2.1 x hx).same λg hg=>hk.blk g (Bt hO ((h.2.1 x hx).lt g hg).1) ((h.2.1 x hx).lt g hg).2.1,h.2.2⟩
def Xk (b:Nat) (w:Aj) (cs:List Ak) (s:St):Prop:=∀w',Hi b w w'->Ap3 w' cs s
def Xk.st (h:Xk b w cs s):Ap3 w cs s:=h w (Hi.refl _ _)
def Xk.go (h:Xk b w cs s) (hk:Hi b w w'):Xk b w' cs s:=λ_ h2=>h _ (hk.trans h2)
def Xk.base (h:Xk b w cs s) (hb:b'<=b):Xk b' w cs s:=
 λ_ h2=>h _ ⟨h2.size,λk hk=>h2.blk k (Bt hb hk)⟩
def Bs7 {b O O2 pc co cc c2:Nat} {cr:List Cr} {rt:Mv} (hA:AOk pA cr.length pc) (hp:w.ownsRow O e 3 (Ad pA cr.length co) cr.length (crs cr)) (hO:b<=O)
  (hs:Ia O2 w (Ad A l.length c2) zl) (hz:zl.map (·.1)=l) (QH:b<=O2):
  Xk b w [Aa Ab a1,Aa Ab a2,Ad pA cr.length pc,Aa Ac rt.t,Aa Ab rt.x,Aa Ab rt.y,Ad A l.length cc] ⟨a1,a2,cr,rt,l⟩:=
 λ_ hk=>⟨⟨pA,pc,A,cc,rfl,hA,Rd.of_own (Ay8 hp hO hk),(hs.hi QH hk).stksN hz⟩⟩
def By9 {k c:Int} (h:okL k c=true):(ofL k c).ok=true:=by
 obtain⟨h1,h2,h3,h4⟩:=Mu.1 h;unfold Mv.ok ofL
 split
 ·rw[Ry];dsimp only;omega
 ·split
  ·rw[Ry];dsimp only;omega
  ·split
   ·rw[Ry];dsimp only;omega
   ·rw[Ry];dsimp only;omega
def Zw (l1 l2:List Stk):Jw (l1++l2)=Jw l1+Jw l2:=by
 unfold Jw;rw[Ez,List.sum_append]
def An2 (h:l1.Perm l2):Jw l1=Jw l2:=(h.map _).sum_nat
def Be2 (h:l1.Sublist l2):Jw l1<=Jw l2:=by
 induction h with
 |slnil=>exact Am _
 |cons x _ ih=>simp[Jw]at ih⊢;omega
 |cons_cons x _ ih=>simp[Jw]at ih⊢;omega
def xL (K C:Int) (s:Nat) (l:List Stk):(Hx K C s l).Sublist l:=List.filter_sublist
def Be1 (l:List Stk):Jw (Mj l)=Jw l:=by
 unfold Jw Mj;rw[Ft]
 congr 1
 refine List.map_congr_left λx _=>?_;simp
def Bo8 (l:List Stk):(Mj l).length=l.length:=by simp[Mj]
def Bo9 {P:Cl->Prop} (h:∀x∈l,P x.c):∀x∈Mj l,P x.c:=λx hx=>by
 obtain⟨y,hy,rfl⟩:=Dr.1 hx;exact h y hy
def Ax5 {m:Mv} (h:Rx m l=Af mv):(∀x∈mv,x.c.ok=true)/\Jw mv=Jw l/\mv.length=l.length:=by
 unfold Rx at h
 split at h
 ·rename_i ha;injection h with h;have hp:=Jd (l.map λx=>(⟨(Lj m x.c).1,x.ls⟩:Stk));rw[h]at hp;refine⟨λx hx=>?_,?_,by rw[hp.length_eq,Bp]⟩
  ·obtain⟨y,hy,rfl⟩:=Dr.1 (hp.mem_iff.1 hx);have:=List.all_eq_true.1 ha y hy;exact qC (by simpa using this)
  ·rw[An2 hp];unfold Jw;rw[Ft];rfl
 ·cases h
def Ai7 (l h:List Stk):(Kc l h).length<=l.length+h.length:=by
 have e:Kc l h=No (Lf (l++h)):=rfl;rw[e,(Jd _).length_eq,<-Bh];exact Ag9 _
def Ay7 (l h:List Stk):∀x∈Kc l h,x.ls.length<=Jw l+Jw h:=λx hx=>by
 have e:Kc l h=No (Lf (l++h)):=rfl;rw[e]at hx;have h1:=Rk ((Jd _).mem_iff.1 hx);rw[Yf,Zw]at h1;exact h1
def Bo4 (l h:List Stk) (P:Cl->Prop) (hl:∀x∈l,P x.c) (hh:∀x∈h,P x.c):∀x∈Kc l h,P x.c:=λx hx=>by
 have e:Kc l h=No (Lf (l++h)):=rfl;rw[e]at hx;refine Uz (l++h) P (λy hy=>?_) x ((Jd _).mem_iff.1 hx);rcases Bl.1 hy with hy|hy
 ·exact hl y hy
 ·exact hh y hy
def vQ {c:Cl} (h:c.ok=true):c.q<=255:=by
 have:=(Jq.1 h).2.2.2.2;omega
structure Ns (s:St) (f:Fd):Prop where
 gs:Gs s
 side:f.side<=1
 okl:okL f.k f.c=true
def Bj1 {f:Fd} (h:Gs s) (ho:Qe f.k f.c f.side=true):Ns s f:=by
 unfold Qe at ho;simp only[Bool.and_eq_true,Li]at ho;exact⟨h,Gv,ho.1⟩
section
variable {s:St} {f:Fd}
def Ns.sp (h:Ns s f) (j:Nat):(Hx f.k f.c j s.l).length<=1024/\Jw (Hx f.k f.c j s.l)<=1024/\(∀x∈Hx f.k f.c j s.l,x.c.ok=true)/\∀x∈Hx f.k f.c j s.l,x.ls.length<=1024:=by
 have hs:=xL f.k f.c j s.l;exact⟨Bt hs.length_le h.gs.len,Bt (Be2 hs) h.gs.tot,λx hx=>(h.gs.at x (hs.subset hx)).1,λx hx=>h.gs.ls x (hs.subset hx)⟩
def Ns.rv (h:Ns s f):(Mj (Hx f.k f.c f.side s.l)).length<=1024/\Jw (Mj (Hx f.k f.c f.side s.l))<=1024/\(∀x∈Mj (Hx f.k f.c f.side s.l),x.c.ok=true)/\∀x∈Mj (Hx f.k f.c f.side s.l),x.ls.length<=1024:=by
 obtain⟨h1,h2,h3,h4⟩:=h.sp f.side;refine⟨by rw[Bo8];exact h1,by rw[Be1];exact h2,Bo9 (P:=λc=>c.ok=true) h3,λx hx=>?_⟩;obtain⟨y,hy,rfl⟩:=Dr.1 hx;have:=h4 y hy;simpa using this
def Ns.mvd (h:Ns s f) (hm:s.mv f=Af mv):mv.length<=1024/\Jw mv<=1024/\(∀x∈mv,x.c.ok=true)/\∀x∈mv,x.ls.length<=1024:=by
 obtain⟨h1,h2,h3,h4⟩:=h.rv;have P3:Rx (ofL f.k f.c) (Mj (Hx f.k f.c f.side s.l))=Af mv:=hm;obtain⟨k1,k2,k3⟩:=Ax5 P3;exact⟨Gv,Gv,k1,λx hx=>by have:=Rk hx;omega⟩
def Ns.up (_h:Ns s f) (a1:l1.length<=1024/\Jw l1<=1024/\(∀x∈l1,x.c.ok=true)/\∀x∈l1,x.ls.length<=1024) (a2:l2.length<=1024/\Jw l2<=1024/\(∀x∈l2,x.c.ok=true)/\∀x∈l2,x.ls.length<=1024):
  (Kc l1 l2).length<=2048/\(∀x∈Kc l1 l2,x.ls.length<=2048)/\∀x∈Kc l1 l2,x.c.q<=255:=by
 refine⟨by have:=Ai7 l1 l2;omega,λx hx=>by have:=Ay7 l1 l2 x hx;omega,λx hx=>?_⟩;exact Bo4 l1 l2 (λc=>c.q<=255) (λy hy=>vQ (a1.2.2.1 y hy)) (λy hy=>vQ (a2.2.2.1 y hy)) x hx
def Ns.mok (h:Ns s f):(ofL f.k f.c).ok=true:=By9 h.okl
def Ns.then (h:Ns s f):Lc s.root (ofL f.k f.c)=Vq s.root (ofL f.k f.c):=by
 unfold Lc;rw[h.gs.root,h.mok];rfl
def Ns.rtt (h:Ns s f):(s.rt f).1.t<=255:=by
 unfold St.rt
 split
 ·unfold Vq gY
  split
  ·rename_i dw;have h8:=vG dw;dsimp only at h8⊢;omega
  ·decide
 ·have:=vG h.gs.root;show s.root.t<=255;omega
end
def stZ:List Ak:=[Aa Ab 0,Aa Ab 0,Ad Ae 0 0,Aa Ac 0,Aa Ab 0,Aa Ab 0,Ad Ae 0 0]
def Bq8 (o:Int×Option St) (w:Aj) (e:Ending) (w':Aj):Prop:=Below w.heap.size w w'/\
 ((o.2=Ae/\e= .returned (.tuple #[.agg stZ.toArray,Aa Ab o.1]))∨∃t cs,o.2=Af t/\e= .returned (.tuple #[.agg cs.toArray,Aa Ab o.1])/\Xk w.heap.size w' cs t)
def Cd1 (h:Gs s) (f:Fd):s.do f=s.fold f:=by
 unfold St.do;rw[Ha (λhh=>hh h.chk)]
def Kg {a b c d e f h:Ak} (hg:w.heap[g]? =Af (Obj.cells #[a,b,c,d,e,f,h] t (0,0))):
  w.cell? ⟨g,0,Ae⟩=Af a/\w.cell? ⟨g,1,Ae⟩=Af b/\w.cell? ⟨g,2,Ae⟩=Af c/\w.cell? ⟨g,3,Ae⟩=Af d/\w.cell? ⟨g,4,Ae⟩=Af e/\w.cell? ⟨g,5,Ae⟩=Af f/\w.cell? ⟨g,6,Ae⟩=Af h:=by
 refine⟨?_,?_,?_,?_,?_,?_,?_⟩<;>(rw[Bz _ _ _ _ _ (0,0) hg];rfl)
def Aa4 {l:List (Nat×Nat)} (h:Rd w A 2 n (Lw l)) (i:Nat) (hi:i<l.length):
  ∃b o,A=Af ⟨b,o,Ae⟩/\b<w.heap.size/\w.cell? ⟨b,o+i*2,Ae⟩=Af (Aa Ab (l[i].1:Int))/\w.cell? ⟨b,o+i*2+1,Ae⟩=Af (Aa Ac (l[i].2:Int)):=by
 have hl:=h.1;rw[xS]at hl;obtain⟨b,o,e,hb,hc⟩:=h.2 Gv;have bi:∀f,f<2->(Lw l)[i*2+f]? =(sD l[i])[f]? :=λf hf=>It sD 2 (λ_=>rfl) _ i f hi hf;exact⟨b,o,e,hb,hc (i*2+0) _ ((bi 0 Gv).trans rfl),hc (i*2+1) _ ((bi 1 Gv).trans rfl)⟩
def bL (s:St) (K C:Int):List Nat:=(Ie s.a s.b s.cr s.root).1.2.map (Is K C)
def Ao8 (l:List (Nat×Nat)) (ss:List Nat) (w:Aj) (e:Ending) (w':Aj):Prop:=
 ∃A cA B,e= .returned (.tuple #[Ad A l.length cA,Ad B ss.length ss.length,Aa Ab 0])/\Rd w' A 2 l.length (Lw l)/\Rd w' B 1 ss.length (Ih ss)/\Below w.heap.size w w'
def Az0 (s:St) (K C:Int) (u:Nat×Nat):Bool:=decide (Is K C (s.img u.1)≠Is K C (s.img (nbI s.a s.b u.1 u.2).1.toNat))&&decide (Ho s.cr u.1 u.2=0)
def qN (s:St) (K C:Int):Lt s K C=(Ko s.a s.b).filter (Az0 s K C):=rfl
def oL {α:Type} (p:α->Bool) (l:List α) (k:Nat) (h:k<l.length):(l.take (k+1)).filter p=if p l[k]then (l.take k).filter p++[l[k]]else (l.take k).filter p:=by
 rw[Bc h,List.filter_append];by_cases hs:p l[k]=true
 ·simp[hs]
 ·simp[hs]
def jW (K C:Int) (i:Nat) (hi:i<(Ie s.a s.b s.cr s.root).1.2.length):(bL s K C)[i]? =Af (Is K C (s.img i)):=by
 unfold bL St.img;rw[Fs,Dt,Aw hi];rfl
def Am8 {l:List Nat} {n k:Nat} (h:l.length=n) (hk:k<n) (v:Nat) (hv:l[k]? =Af v):(l.take k++Ba (n-k) 0).set k v=l.take (k+1)++Ba (n-(k+1)) 0:=by
 have hl:(l.take k).length=k:=by rw[List.length_take];omega
 rw[Gh _ _ Gv,hl,Fo,show n-k=(n-(k+1))+1 by omega,List.replicate_succ,Cg];rw[List.take_add_one,hv];simp
def iE (a b:Int) (pA:Option Cj) (pn pc rt:Nat) (rx ry K C:Int) (sv:Ak) (N P G2 G3:Nat) (is:List Cl) (r:List Nat):List (Nat×Array Ak×Ck):=
 [(N,#[Aa Ab a,Aa Ab b,Ad pA pn pc,Aa Ac rt,Aa Ab rx,Aa Ab ry,sv],33),(P,#[Aa Ac K,Aa Ab C],48),(G2,(Nu is).toArray,90),(G3,(Ih r).toArray,3)]
def wA (s:St) (pA:Option Cj) (pc:Nat) (sv:Ak) (K C:Int) (w:Aj) (hs:Gs s) (fi:Rd w pA 3 s.cr.length (crs s.cr)) (hL:okL K C=true) (hQ:Qf w) (hT:Tn w) (T6:sv.oneCell'=true):
  Al Dp 66 #[.agg #[Aa Ab s.a,Aa Ab s.b,Ad pA s.cr.length pc,Aa Ac s.root.t,Aa Ab s.root.x,Aa Ab s.root.y,sv],.agg #[Aa Ac K,C]] w (Ao8 (Lt s K C) (bL s K C) w):=by
 have IQ:=vG hs.root;have pu:=Zz w (λw' hb=>Wd s.a s.b pA s.cr s.cr.length pc s.root w' hs.pat rfl (fi.below hb) hs.pat.len Gv (hQ.below hb) (hT.below hb));have HUN:=Zz w (λw' hb=>Bf1 s.a s.b w' hs.pat.sheet ((hQ.below hb).qt));have JD:=Zz w (λw' hb (i e:Int) (he:0<=e)=>Jj s.a s.b i e w' hs.pat.sheet he ((hQ.below hb).qt));have HKD:=Zz w (λw' hb (i e:Nat) (hu:isU s.a s.b i e=true) (hi:i<1024) (he:e<3)=>zG s.a s.b pA s.cr s.cr.length pc i e i w' rfl (fi.below hb) hs.pat ((hQ.below hb).qt) (pK hu) Gv Gv);have HSD:=Zz w (λw' hb (c:Cl) (hc:c.ok=true)=>bU K C c w' hL hc (hQ.below hb));have GX:=hs.both;obtain⟨-,bv,-,jj⟩:=Ny GX;have JG:=Ah (λ(i:Nat) hi=>jW (s:=s) K C i hi);have HPE:=qN s K C;have HPU:=Ah (λ(u:Nat×Nat)=>show Az0 s K C u=(decide (Is K C (s.img u.1)≠Is K C (s.img (nbI s.a s.b u.1 u.2).1.toNat))&&decide (Ho s.cr u.1 u.2=0))from rfl);have HUB:=Ah (λ(u:Nat×Nat) (h:u∈Ko s.a s.b)=>bQ hs.pat.sheet h)
 have qk:=Ah (λ(u:Nat×Nat) (h:isU s.a s.b u.1 u.2=true)=>show 0<=(nbI s.a s.b u.1 u.2).1/\(nbI s.a s.b u.1 u.2).1.toNat<Hh s.a s.b/\(nbI s.a s.b u.1 u.2).2=0 by
  unfold isU at h;simp only[Bool.and_eq_true,Li]at h;have h1:=fR hs.pat.sheet h.1;have h2:=(Lh hs.pat.sheet).1;exact⟨h1.1,Gv,h.1⟩)
 have ZR:=Lh hs.pat.sheet;have JF:=Ah (show bL s K C=(Ie s.a s.b s.cr s.root).1.2.map (Is K C)from rfl);rw[HPE];clear HPE;obtain⟨cnt,ji⟩:=ey (Hh s.a s.b);have HUM:=Ah (λ(u:Nat×Nat) (h:u∈Ko s.a s.b)=>(Nb h).2.1);unfold Ko at HUM;rw[ji]at bv qk ZR;obtain⟨PU,hPU⟩:=ey (Az0 s K C);rw[hPU]at HPU⊢;obtain⟨SS,TQ⟩:=ey (bL s K C);rw[TQ]at JG JF⊢;obtain⟨⟨⟨ms,is⟩,er⟩,TY⟩:∃z,Ie s.a s.b s.cr s.root=z:=⟨_,rfl⟩;rw[TY]at pu GX bv jj JG JF;dsimp only at pu GX bv jj JG JF;subst GX;rw[bv]at pu JG;obtain⟨a,b,cr,root,sl⟩:=s;obtain⟨rt,rx,ry⟩:=root;dsimp only at*;obtain⟨US,I7⟩:=ey (Ko a b)
 have hUM2:∀u∈US,3*u.1+u.2<3*cnt:=λu hu=>by
  have:=HUM.out u (by unfold Ko at I7;rw[I7];exact hu);rw[ji]at this;exact this
 have HUM2:=Ah hUM2;rw[I7]at HUN HUB⊢;obtain⟨pn,oh⟩:=ey cr.length;rw[oh]at pu HKD⊢;have H:=((Bx.start w).new #[a,b,Ad pA pn pc,Aa Ac rt,rx,ry,sv] 33 rfl).new #[Aa Ac K,C] 48 (N:=w.heap.size+1) Gy
 have WR:Hid (US.length<=3072):=Ah (by
  have h1:=Sb a b (3*Hh a b);rw[ji]at h1;unfold Ko at I7;rw[ji,]at I7;rw[<-I7];omega)
 have yv:=Ah bv;have VZ:=Ah jj;have DS:=Ah ZR;have HSV:=Ah T6;clear ZR hs fi hQ hT IQ hUM2 HUM I7 oh bv jj ji hPU TQ TY T6;go_in;go_upto_region 1 with fail;obtain⟨N,ct⟩:=Tw w.heap.size;rw[<-ct.out]at H⊢;generalize N+1=P at H⊢;generalize (w.alloc _).alloc _=W1 at H⊢;obtain⟨a0,a1,a2,a3,a4,a5,a6⟩:=Kg (H.b 0);go_wp2_with fail;refine(pu.out _ H.below).mono ?_;rintro ee w2 ⟨hb,⟨h0,-⟩|⟨-,G2,rfl,jz,MU⟩⟩
 ·exact absurd rfl h0
 have H2:=H.join hb jz MU;clear a0 a1 a2 a3 a4 a5 a6 hb jz MU H pu;obtain⟨jy,qo,hc3⟩:=DS.out;have ub:=Zf cnt hc3 w2;obtain⟨G3,hG3⟩:=ey w2.heap.size;have H3:=H2.new (Ih (Ba cnt 0)).toArray 3 hG3;rw[hG3]at ub;clear H2 jy qo hc3;go_upto_region 5 with fail
 try rw[hG3]
 generalize w2.alloc _=W4 at H3⊢;have WB:Hid (Bx w (iE a b pA pn pc rt rx ry K C sv N P G2 G3 is (SS.take 0++Ba (cnt-0) 0)) W4):=Ah H3;have EG:Hid (SS.length=cnt):=Ah (by rw[JF.out,Bp,yv.out]);have HSM:Hid (∀(i:Nat) (h:i<is.length),SS[i]? =Af (Is K C is[i])):=Ah λi h=>by rw[JF.out,Fs,Aw h];rfl
 clear ub hG3 H3;have EW:cnt<=1024:=DS.out.2.2;have eh:US.length<=3072:=WR.out;go_wp2
 go_loopw [36] (λs36 wr=>∃k:Nat,k<=cnt/\s36= Aa Ab k/\Hid (Bx w (iE a b pA pn pc rt rx ry K C sv N P G2 G3 is (SS.take k++Ba (cnt-k) 0)) wr)) (λs36 _=>cnt-(intOf s36).toNat)
 case atStart=>exact⟨0,Gv,rfl,WB⟩
 obtain⟨k,hk,rfl,HH⟩:=hrel;clear WB;by_cases ac:k<cnt
 ·have q0:(k:Int)<(cnt:Int):=Gv;have bv:k<is.length:=oHx yv.out;obtain⟨b9,o9,e9,-,d0,d1,d2⟩:=Az9 (Ug (HH.out.b 2) (Om is)) k bv;obtain⟨rfl,rfl⟩:G2=b9/\0=o9:=by simpa using e9
  rw[Bu]at d0 d1 d2;have dw:=VZ.out is[k] (Ay bv);have sc:=HSM.out k bv;obtain⟨⟨x0,x1,x2⟩,hx⟩:=ey (is[k]);rw[hx]at d0 d1 d2 dw sc;dsimp only at d0 d1 d2;obtain⟨sd,yk⟩:=ey (Is K C ⟨x0,x1,x2⟩);have EF:=Zz w (λw' hb=>HSD.out w' hb ⟨x0,x1,x2⟩ dw);rw[yk]at EF sc;dsimp only at EF;have XU:=Am8 EG.out ac sd sc;have KV:=Ah XU;obtain⟨X,hX⟩:=ey wr.heap.size;have H:=HH.out.new #[x0,x1,Aa Ac x2] 90 hX;clear hx yk dw sc XU;go_upto_region 8 with fail
  try rw[hX]
  generalize wr.alloc _=W5 at H⊢;clear d0 d1 d2 hX;obtain⟨⟨e0,e1,e2⟩,-⟩:=Hg (H.b 4);obtain⟨⟨b0,b1⟩,-⟩:=Hm (H.b 1);go_wp2_with fail;refine(EF.out _ H.below).mono ?_;rintro ee w6 ⟨rfl,hb⟩;have H6:=H.call hb;clear e0 e1 e2 b0 b1 hb H EF;have NR:=H6.b 3;have UJ:w6.frozen? ⟨G3,k,Ae⟩=false:=by simp[World.frozen?,NR]
  have iu:∃u,w6.cell? ⟨G3,k,Ae⟩=Af u:=by
   refine⟨_,(Bz w6 G3 k _ _ (0,0) NR).trans (Array.getElem?_eq_getElem (i:=k) ?_)⟩;have:=EG.out;simp[Ih];omega
  obtain⟨u9,iu⟩:=iu;have H7:=H6.set 3 k rfl (Aa Ab sd);rw[yZ,KV.out]at H7;have HR:Hid (Bx w (iE a b pA pn pc rt rx ry K C sv N P G2 G3 is (SS.take (k+1)++Ba (cnt-(k+1)) 0)) (w6.setCell ⟨G3,k,Ae⟩ (Aa Ab (sd:Int)))):=Ah (H7.upto 4);clear NR H6 H7;go_wp2;exact⟨⟨k+1,Gv,by go_num,HR⟩,by simp[intOf];omega⟩
 ·obtain rfl:k=cnt:=Gv;obtain⟨cnt,rfl⟩:=ez k;have q0:¬(cnt:Int)<(cnt:Int):=Gv;obtain⟨WY,rfl⟩:=ez wr
  have TQ:SS.take cnt++Ba (cnt-cnt) 0=SS:=by
   rw[Fo,List.replicate_zero,Ff,Bg (oHx EG.out)]
  have H:=HH.out;rw[TQ]at H;clear TQ HH;obtain⟨a0,a1,a2,a3,a4,a5,a6⟩:=Kg (H.b 0);go_wp2_with fail;refine(HUN.out _ H.below).mono ?_;rintro ee w5 ⟨AU,rfl,ae,hb⟩;have H5:=H.call hb;clear a0 a1 a2 a3 a4 a5 a6 hb H HUN;obtain⟨nu,pr⟩:=ey US.length;rw[pr]at ae⊢;obtain⟨O,hO⟩:=ey w5.heap.size;have HUR:=Ah (λ(wr:Aj) (hb:Below O w5 wr)=>show Rd wr AU 2 nu (Lw US)from ae.rd.below (by rw[hO];exact hb));have WB:Hid (Bx w (iE a b pA pn pc rt rx ry K C sv N P G2 G3 is SS) w5/\O<=w5.heap.size/\Below O w5 w5/\((US.take 0).filter PU).length=0/\w5.ownsRow O 194 2 (Ad Ae 0 0) 0 (Lw ((US.take 0).filter PU))):=Ah ⟨H5,Gv,Ag _ _,rfl,⟨rfl,.inl ⟨rfl,rfl⟩⟩⟩;have LC:=Ah pr;have hnub:nu<=3072:=Gv
  have HLO:Hid (∀x∈iE a b pA pn pc rt rx ry K C sv N P G2 G3 is SS,x.1<O):=Ah (by
   intro x hx;obtain⟨i,hi,rfl⟩:=Be.1 hx;rw[<-hO];exact H5.lt i (Aw hi))
  have WT:Hid (w.heap.size<=O):=Ah (oHx H5.below.size);clear ae pr hO H5;go_wp2
  go_loopw [66,13] (λs66 KO wr=>∃(k2 m9 c9:Nat) (A9:Option Cj),k2<=nu/\s66= Aa Ab k2/\KO= Ad A9 m9 c9/\m9<=k2/\Hid (Bx w (iE a b pA pn pc rt rx ry K C sv N P G2 G3 is SS) wr/\O<=wr.heap.size/\Below O w5 wr/\((US.take k2).filter PU).length=m9/\wr.ownsRow O 194 2 (Ad A9 m9 c9) m9 (Lw ((US.take k2).filter PU)))) (λs66 _ _=>nu-(intOf s66).toNat)
  case atStart=>exact⟨0,0,0,Ae,Gv,rfl,rfl,Am _,WB⟩
  obtain⟨k2,m9,c9,A9,uq,rfl,rfl,UT,HZ⟩:=hrel;clear WB;by_cases ac:k2<nu
  ·have q0:(k2:Int)<(nu:Int):=Gv;have VH:k2<US.length:=oHx LC.out;obtain⟨hB,hO,db,jc,aa⟩:=HZ.out;obtain⟨bu,ou,hAU,-,d0,d1⟩:=Aa4 (HUR.out _ db) k2 VH;obtain⟨L_,ye,hiu⟩:=HUB.out US[k2] (Ay VH);have UN:=HUM2.out US[k2] (Ay VH);have ky:=qk.out US[k2] hiu;have hfs:=oL PU US k2 VH;have IL:=HPU.out US[k2];obtain⟨⟨i,e⟩,hu⟩:=ey (US[k2]);rw[hu]at d0 d1 L_ ye hiu UN ky hfs IL;dsimp only at d0 d1 L_ ye hiu UN ky IL;have UO:i<cnt:=Gv;obtain⟨RB,JZ,hne⟩:=ky;have eh:=λ(w':Aj) (hb:Below w.heap.size w w')=>JD.out w' hb i e Gv;obtain⟨⟨nn,ne⟩,FJ⟩:=ey (nbI a b (i:Int) (e:Int));rw[FJ]at RB JZ hne eh IL;dsimp only at RB JZ hne IL;subst hne;unfold fD at eh;dsimp only at eh;obtain⟨n,rfl⟩:∃n:Nat,nn=(n:Int):=⟨nn.toNat,Gv⟩;rw[Int.toNat_natCast]at JZ IL;have HSI:=JG.out i UO;have xd:=JG.out n JZ;obtain⟨s1,gr⟩:=ey (Is K C (St.img ⟨a,b,cr,⟨rt,rx,ry⟩,sl⟩ i));obtain⟨s2,jl⟩:=ey (Is K C (St.img ⟨a,b,cr,⟨rt,rx,ry⟩,sl⟩ n));rw[gr]at HSI IL;rw[jl]at xd IL;have js:=Zz w (λw' hb=>HKD.out w' hb i e hiu ye L_);obtain⟨kk,iz⟩:=ey (Ho cr (i:Int) (e:Int));rw[iz]at js IL;have HNBR:=Ah eh;have Z9:=Ah hfs;have PV:=Ah IL;have EA:=Ah aa;have CN:=Ah jc;have yr:=Ah db;have jm:=Ah hO;have q1:(i:Int)<(cnt:Int):=Gv;have q2:(n:Int)<(cnt:Int):=Gv
   have OD:m9<=3072:=by
    have h1:=WR.out;omega
   obtain⟨X,hX⟩:=ey wr.heap.size;have H:=hB.new #[(i:Int),Aa Ac (e:Int)] 194 hX;subst hAU;clear FJ RB JZ gr jl iz eh hfs IL aa jc db hO hB hu VH UN hiu UO HZ;have cg:=(Ag wr.heap.size wr).alloc (Am _) (.cells #[(i:Int),Aa Ac (e:Int)] 194);go_upto_region 19 with fail
   try rw[hX]
   generalize wr.alloc _=W6 at H cg⊢;clear d0 d1;obtain⟨⟨x0,x1⟩,-⟩:=Hm (H.b 4);obtain⟨a0,a1,a2,a3,a4,a5,a6⟩:=Kg (H.b 0);go_wp2_with fail;refine(HNBR.out _ H.below).mono ?_;rintro ee w7 ⟨rfl,hb⟩;have H7:=H.call hb;have NJ:=Up cg hb;clear x0 x1 a0 a1 a2 a3 a4 a5 a6 hb H cg HNBR;obtain⟨⟨x0,x1⟩,-⟩:=Hm (H7.b 4);have OS:=Ug (H7.b 3) (show(Ih SS).length=cnt*1 by rw[Lr,EG.out,Dc]);obtain⟨b9,o9,e9,-,y1⟩:=Rp OS i (by rw[EG.out];omega);obtain⟨rfl,rfl⟩:G3=b9/\0=o9:=by simpa using e9
   obtain⟨b8,o8,e8,-,y2⟩:=Rp OS n (by rw[EG.out];omega);obtain⟨rfl,rfl⟩:G3=b8/\0=o8:=by simpa using e8
   have gr:SS[i]'(by rw[EG.out];omega)=s1:=by
    have:=HSI;rw[Aw (by rw[EG.out];omega)]at this;simpa using this
   have jl:SS[n]'(by rw[EG.out];omega)=s2:=by
    have:=xd;rw[Aw (by rw[EG.out];omega)]at this;simpa using this
   rw[gr,Bu]at y1;rw[jl,Bu]at y2;clear OS e9 e8 gr jl HSI xd;by_cases hse:s1=s2
   ·subst hse
    have hF:(US.take (k2+1)).filter PU=(US.take k2).filter PU:=by
     rw[Z9.out,PV.out];simp
    have HR:Hid (∀q,Bx w (iE a b pA pn pc rt rx ry K C sv N P G2 G3 is SS) (w7.drewN q)/\O<=(w7.drewN q).heap.size/\Below O w5 (w7.drewN q)/\((US.take (k2+1)).filter PU).length=m9/\(w7.drewN q).ownsRow O 194 2 (Ad A9 m9 c9) m9 (Lw ((US.take (k2+1)).filter PU))):=Ah (λq=>by
     rw[hF];exact⟨(H7.upto 4).drewN q,Bt jm.out NJ.size,Ic (yr.out.trans (NJ.mono jm.out)) q,CN.out,Hz EA.out (Am _) (Ic NJ q)⟩)
    clear hF;go_upto_region 20 with fail
    go_quiet (fail)
    go_wp2;exact⟨⟨k2+1,m9,c9,A9,Gv,by go_num,rfl,Gv,Ah (HR.out _)⟩,by simp[intOf];omega⟩
   ·have hse2:((s1:Int)==(s2:Int))=false:=by rw[beq_eq_false_iff_ne];omega
    go_upto_region 20 with fail
    go_quiet (fail)
    have H8:=H7.drewN nq;have TZ:=Ic NJ nq;generalize w7.drewN nq=W8 at H8 TZ⊢;clear H7 NJ x0 x1 y1 y2;obtain⟨⟨x0,x1⟩,-⟩:=Hm (H8.b 4);obtain⟨a0,a1,a2,a3,a4,a5,a6⟩:=Kg (H8.b 0);go_wp2_with fail;refine(js.out _ H8.below).mono ?_;rintro ee w9 ⟨rfl,hb⟩;have H9:=H8.call hb;have NK:=Up TZ hb;clear x0 x1 a0 a1 a2 a3 a4 a5 a6 hb H8 TZ js;obtain⟨⟨x0,x1⟩,-⟩:=Hm (H9.b 4);have um:O<=w9.heap.size:=Bt jm.out NK.size;have fe:=Hz EA.out (Am _) NK;have TX:=yr.out.trans (NK.mono jm.out);have xf:Bx w (iE a b pA pn pc rt rx ry K C sv N P G2 G3 is SS) w9:=H9.upto 4;by_cases di:kk=0
    ·subst di
     have hF:(US.take (k2+1)).filter PU=(US.take k2).filter PU++[(i,e)]:=by
      rw[Z9.out,PV.out];simp[hse]
     obtain⟨A',c',on,ah,ho10,gm,hg10,TN,-⟩:=Yi (sl:=152) Tryz.underlying152 fC rfl He He w9 O m9 (Ad A9 m9 c9) _ fe um Gv [Aa Ab (i:Int),Aa Ac (e:Int)] rfl (by simp[Do]);have bf:=Ah ah
     have HR:Hid (Bx w (iE a b pA pn pc rt rx ry K C sv N P G2 G3 is SS) on/\O<=on.heap.size/\Below O w5 on/\((US.take (k2+1)).filter PU).length=m9+1/\on.ownsRow O 194 2 (Ad A' (m9+1) c') (m9+1) (Lw ((US.take (k2+1)).filter PU))):=Ah (by
      rw[hF,cW];exact⟨xf.keepN HLO.out WT.out gm,TN,TX.trans gm,by rw[Bh,CN.out];rfl,ho10⟩)
     clear ah ho10 gm hg10 TN hF fe um TX xf H9 NK;go_wp2_with (at_builtin;refine As _ rfl _ _ _ _ rfl _ _ rfl rfl _ _ bf.out ?_);go_wp2;exact⟨⟨k2+1,m9+1,c',A',Gv,by go_num,rfl,Gv,HR⟩,by simp[intOf];omega⟩
    ·have hF:(US.take (k2+1)).filter PU=(US.take k2).filter PU:=by
      rw[Z9.out,PV.out];simp[di]
     have uq:(kk==0)=false:=by simpa using di
     have HR:Hid (Bx w (iE a b pA pn pc rt rx ry K C sv N P G2 G3 is SS) w9/\O<=w9.heap.size/\Below O w5 w9/\((US.take (k2+1)).filter PU).length=m9/\w9.ownsRow O 194 2 (Ad A9 m9 c9) m9 (Lw ((US.take (k2+1)).filter PU))):=Ah (by
      rw[hF];exact⟨xf,um,TX,CN.out,fe⟩)
     clear hF fe um TX xf H9 NK;go_wp2;exact⟨⟨k2+1,m9,c9,A9,Gv,by go_num,rfl,Gv,HR⟩,by simp[intOf];omega⟩
  ·obtain rfl:k2=nu:=Gv;have q0:¬(k2:Int)<(k2:Int):=Gv;obtain⟨hB,hO,db,jc,aa⟩:=HZ.out;have ht:US.take k2=US:=Bg (oHx LC.out);rw[ht]at jc aa;have OS:=Ug (hB.b 3) (show(Ih SS).length=cnt*1 by rw[Lr,EG.out,Dc]);have aw:Hid (Ao8 (US.filter PU) SS w (.returned (.tuple #[Ad A9 m9 c9,Ad (Af ⟨G3,0,Ae⟩) cnt cnt,Aa Ab 0])) wr):=Ah ⟨A9,c9,Af ⟨G3,0,Ae⟩,by rw[jc,EG.out],by rw[jc];exact Rd.of_own aa,by rw[EG.out];exact OS,hB.below⟩;clear hB hO db jc aa ht OS HZ;go_wp2_with fail;refine Ai (v:= .tuple #[Ad A9 m9 c9,Ad (Af ⟨G3,0,Ae⟩) cnt cnt,Aa Ab 0]) (by simp[results,Tryz.results66,go_sem]) rfl ?_;exact aw.out
def tQ (id Ub Fb:Nat) (U:Option Cj) (nu cu:Nat) (up:List Bool) (over:Bool) (w:Aj) (hn:nu=up.length) (h:Rd w U 1 nu (If up)) (hid:id<nu) (hU:w.cell? ⟨Ub,0,Ae⟩=Af (Ad U nu cu)) (hF:w.cell? ⟨Fb,3,Ae⟩=Af (.bool over)):
  Al Dp 74 #[(id:Int),.pointer (Af ⟨Ub,0,Ae⟩),.pointer (Af ⟨Fb,0,Ae⟩)] w (Gz (Aa Ac (if up.getD id false=over then 2 else 1)) w):=by
 obtain⟨b,o,rfl,cj,u0⟩:=Aa0 h id Gv
 have hg:up.getD id false=up[id]'(by omega):=by
  rw[Dt,Aw Gv];rfl
 rw[hg];obtain⟨v,hv⟩:=ey (up[id]'(by omega));rw[hv]at u0⊢;obtain⟨R,hR⟩:∃z:Int,(if v=over then 2 else 1)=z:=⟨_,rfl⟩;rw[hR];have HR:=Ah hR;have q0:(id:Int)<(nu:Int):=Gv;obtain⟨S,an,HSO⟩:=Og λW'=>W'.cell? ⟨Ub,0,Ae⟩=Af (Ad (Af ⟨b,o,Ae⟩) nu cu)/\W'.cell? ⟨b,o+id,Ae⟩=Af (.bool v)/\W'.cell? ⟨Fb,3,Ae⟩=Af (.bool over);have tu:Hid (S w.drew):=Ah (by subst an;exact⟨hU,u0,hF⟩);have de:Hid (Below w.heap.size w w.drew):=Ah (Ag _ _).drew;clear hn h hid hU hF hg hv hR an u0 cj;go_in;go_upto_region 1 with fail;refine Ao (S:=S) Gx tu.out (λhS=>?_);generalize w.drew=X0 at hS de⊢
 cases v<;>cases over
 ·refine Hk 0 1 2 3 ?_;refine Oe 4 5 6 ?_;refine An Gx ?_ _;have MY:R=2:=by rw[<-HR.out];rfl
  subst MY;go_wp2;go_ret;exact⟨rfl,de⟩
 ·refine Hk 0 1 2 3 ?_;refine Oe 4 5 6 ?_;refine An Gx ?_ _;have MY:R=1:=by rw[<-HR.out];rfl
  subst MY;go_wp2;go_ret;exact⟨rfl,de⟩
 ·refine Hk 0 1 2 3 ?_;refine Oe 4 5 6 ?_;refine An Gx ?_ _;have MY:R=1:=by rw[<-HR.out];rfl
  subst MY;go_wp2;go_ret;exact⟨rfl,de⟩
 ·refine Hk 0 1 2 3 ?_;refine Oe 4 5 6 ?_;refine An Gx ?_ _;have MY:R=2:=by rw[<-HR.out];rfl
  subst MY;go_wp2;go_ret;exact⟨rfl,de⟩
def Bx.grown {l:List (Nat×Array Ak×Ck)} {row:Option Nat} (h:Bx w l wr) (hg:wr.grownBy w' row) (hn:∀x∈l,row≠Af x.1) (jo:∀g,row=Af g->w.heap.size<=g):Bx w l w':=
 ⟨h.below.grown hg h.below.size jo,λi g cs t hi=>(hg.block g (h.lt i hi) (Ne.symm (hn _ (List.mem_of_getElem? hi)))).trans (h.blk i g cs t hi),h.lo,h.inj⟩
def Xy {O e sz n g:Nat} {cs:Array Ak} (h:w.ownsRow O e sz v n xs) (hg:w.heap[g]? =Af (Obj.cells cs t (0,0))) (hne:t≠e):v.ownBlock≠Af g:=Ne.symm (Wy hg hne h)
def csL (a b:Int) (pA:Option Cj) (pn pc N R T:Nat) (v:Ak):List (Nat×Array Ak×Ck):=
 [(N,#[Aa Ab a,Aa Ab b,Ad pA pn pc],28),(R,#[Aa Ab 0,Aa Ab 0,Ad Ae 0 0],28),(T,#[Aa Ab a,Aa Ab b,v],28)]
structure CsI (w:Aj) (L:Ak->List (Nat×Array Ak×Ck)) (wr:Aj) (m:Nat) (xs:List Ak) (A:Option Cj) (c:Nat):Prop where
 bx:Bx w (L (Ad A m c)) wr
 own:wr.ownsRow w.heap.size 192 3 (Ad A m c) m xs
def CsI.below {L:Ak->List (Nat×Array Ak×Ck)} (h:CsI w L wr m xs A c) (hb:Below wr.heap.size wr w'):CsI w L w' m xs A c:=⟨h.bx.call hb,Hz h.own (Am _) hb⟩
def Br4 {a b:Int} (h:CsI w (csL a b pA pn pc N R T) wr m xs A c):∀x∈csL a b pA pn pc N R T (Ad A m c),Dx (Ad A m c)≠Af x.1:=by
 intro x hx;have h0:=h.bx.b 0;have h1:=h.bx.b 1;have h2:=h.bx.b 2;simp only[csL,List.mem_cons,List.not_mem_nil,or_false]at hx;rcases hx with rfl|rfl|rfl
 ·exact Xy h.own h0 He
 ·exact Xy h.own h1 He
 ·exact Xy h.own h2 He
def yO {a b:Int} (h:CsI w (csL a b pA pn pc N R T) wr m xs A c) (hb:Below wr.heap.size wr Y) (hm:m<=1000000) (i e k:Int):
  ∃A' c' w8,(Builtin.append_ #[26,26] 26 #[Ad A m c,Ad (Af ⟨Y.heap.size,0,Ae⟩) 1 1]).run Dp (Y.alloc (.cells #[i,Aa Ac e,Aa Ac k] 192))= .ok (Ad A' (m+1) c') w8/\
   (w8.frozen? ⟨T,2,Ae⟩=false/\w8.cell? ⟨T,2,Ae⟩=Af (Ad A m c))/\(∀X,wr.heap.size<=X->X<Y.heap.size->w8.heap[X]? =Y.heap[X]? /\(w8.setCell ⟨T,2,Ae⟩ (Ad A' (m+1) c')).heap[X]? =Y.heap[X]?)/\
   CsI w (csL a b pA pn pc N R T) (w8.setCell ⟨T,2,Ae⟩ (Ad A' (m+1) c')) (m+1) (xs++[Aa Ab i,Aa Ac e,Aa Ac k]) A' c':=by
 have hY:=h.below hb;obtain⟨A',c',w8,ah,ho,-,hg,hM,-,-,un⟩:=Yi (sl:=26) Tryz.underlying26 Au4 rfl He He Y w.heap.size m (Ad A m c) xs hY.own hY.bx.below.size Gv [Aa Ab i,Aa Ac e,Aa Ac k] rfl (by simp[Do]);have jo:∀g,Dx (Ad A m c)=Af g->w.heap.size<=g:=λg hg=>(hY.own.lt g hg).1;have H8:=hY.bx.grown hg (Br4 hY) jo;obtain⟨⟨-,-,t2⟩,-,-,f2⟩:=Hg (H8.b 2);have hT8:=H8.b 2
 have hX:∀X,wr.heap.size<=X->X<Y.heap.size->w8.heap[X]? =Y.heap[X]? :=λX h1 h2=>hg.block X h2 λe=>by
  have:=(h.own.lt X e.symm).2;omega
 have hTr:=h.bx.lt 2 rfl
 exact⟨A',c',w8,ah,⟨f2,t2⟩,λX h1 h2=>⟨hX X h1 h2,(Dq w8 ⟨T,2,Ae⟩ _ X (by show X≠T;omega)).trans (hX X h1 h2)⟩,H8.set 2 2 rfl _,Io ho λg M3=>Dq w8 ⟨T,2,Ae⟩ _ g (by
  show g≠T;intro e;subst e;exact Xy ho hT8 He M3)⟩
def Bi3 {a b:Int} (h:Bx w [(N,#[Aa Ab a,Aa Ab b,Ad pA pn pc],28),(R,#[Aa Ab 0,Aa Ab 0,Ad Ae 0 0],28),(T,#[Aa Ab 0,Aa Ab 0,Ad Ae 0 0],28)] wr)
  (ho:wr.ownsRow w.heap.size 192 3 (Ad A pn c) pn xs):CsI w (csL a b pA pn pc N R T) (((wr.setCell ⟨T,0,Ae⟩ (Aa Ab a)).setCell ⟨T,1,Ae⟩ (Aa Ab b)).setCell ⟨T,2,Ae⟩ (Ad A pn c)) pn xs A c:=by
 have hT:=h.b 2
 have hne:∀g,Dx (Ad A pn c)=Af g->g≠T:=λg hg e=>by
  subst e;exact Xy ho hT He hg
 refine⟨((h.set 2 0 rfl (Aa Ab a)).set 2 1 rfl (Aa Ab b)).set 2 2 rfl (Ad A pn c),Io ho λg hg=>?_⟩;rw[Dq _ ⟨T,2,Ae⟩ _ g (hne g hg),Dq _ ⟨T,1,Ae⟩ _ g (hne g hg),Dq _ ⟨T,0,Ae⟩ _ g (hne g hg)]
def Ao3 (a b:Int) (l:List Cr) (w:Aj) (e:Ending) (w':Aj):Prop:=
 ∃A c,e= .returned (.agg #[a,b,Ad A l.length l.length])/\AOk A l.length l.length/\w'.ownsRow w.heap.size 192 3 (Ad A l.length c) l.length (crs l)/\Below w.heap.size w w'
def vL (l:List (Nat×Nat)) (kf:Nat->Int) (k:Nat) (h:k<l.length):Lz (l.take (k+1)) kf=Lz (l.take k) kf++[⟨l[k].1,l[k].2,kf l[k].1⟩]:=by
 unfold Lz;rw[Bc h,Ez];rfl
def yM (l1 l2:List Cr):crs (l1++l2)=crs l1++crs l2:=by simp[crs]
def oC (a b:Int) (pA:Option Cj) (cr:List Cr) (pn pc:Nat) (AL:Option Cj) (l:List (Nat×Nat)) (nl cl U F:Nat) (kf:Nat->Int) (w:Aj) (oh:pn=cr.length) (YJ:AOk pA pn pc) (fi:Rd w pA 3 pn (crs cr)) (dr:pn<=300000)
  (ky:nl=l.length) (hl:Rd w AL 2 nl (Lw l)) (O8:nl<=3072) (ca:((cr++Lz l kf).map crU).Nodup)
  (iu:∀w',Below w.heap.size w w'->∀u∈l,Al Dp 74 #[Aa Ab (u.1:Int),.pointer (Af ⟨U,0,Ae⟩),.pointer (Af ⟨F,0,Ae⟩)] w' (Gz (Aa Ac (kf u.1)) w')):
  Al Dp 73 #[.agg #[a,b,Ad pA pn pc],Ad AL nl cl,.func (.func 74) #[] #[.pointer (Af ⟨U,0,Ae⟩),.pointer (Af ⟨F,0,Ae⟩)]] w (Ao3 a b (Oc (cr++Lz l kf)) w):=by
 have ZS:=Zz w (λw' hb=>yL pA pn pc (crs cr) w' YJ (fi.below hb) (yN cr) Gv);have HUR:=Zz w (λw' hb=>hl.below hb);have IT:=Ah iu;have KY:=Ah ca;have qk:=Ah ky;have LD:=Ah oh;have H:=((Bx.start w).new #[a,b,Ad pA pn pc] 28 rfl).new #[Aa Ab 0,Aa Ab 0,Ad Ae 0 0] 28 (N:=w.heap.size+1) Gy;clear oh YJ fi ky hl ca iu;go_in;go_upto_region 1 with fail;obtain⟨N,ct⟩:=Tw w.heap.size;rw[<-ct.out]at H⊢;generalize N+1=R at H⊢;generalize (w.alloc _).alloc _=W1 at H⊢;obtain⟨⟨a0,a1,a2⟩,-⟩:=Hg (H.b 0);go_cut [7] (λs7 wx=>∃T A c,s7= .pointer (Af ⟨T,0,Ae⟩)/\Hid (CsI w (csL a b pA pn pc N R T) wx pn (crs cr) A c))
 case first=>
  obtain⟨S,an,HSO⟩:=Og λW'=>W'.cell? ⟨N,0,Ae⟩=Af (Aa Ab a)/\W'.cell? ⟨N,1,Ae⟩=Af (Aa Ab b)/\W'.cell? ⟨N,2,Ae⟩=Af (Ad pA pn pc)
  have ag:Hid (∀W',Below W1.heap.size W1 W'->S W'):=Ah λW' h=>by
   subst an;exact⟨Gw h a0,Gw h a1,Gw h a2⟩
  clear an a0 a1 a2;refine Ao (S:=S) Gx (ag.out _ (Ag _ _).drew) (λhS=>?_);have hb:Below W1.heap.size W1 W1.drew:=(Ag _ _).drew;have H:=H.drew;generalize W1.drew=X0 at hb hS H⊢;refine Hk 0 1 2 3 ?_;refine Ap (rs:=[4,6]) Gx Gy (Aq rfl (λK hK=>?_) (Aq rfl (λK hK=>?_) Ar));go_simp;refine(ZS.out _ H.below).mono ?_;rintro e X1 ⟨v,rfl,aa,ad⟩;obtain⟨A',c',rfl,-,-,-⟩:=Mi aa;have aa:=Nn aa H.below.size;have H:=H.call ad;have hb:=Up hb ad;refine hK.o (ag.out _ hb) (λhS=>?_);clear hK K ad;refine Ke 5 ?_;obtain⟨T,hT⟩:=ey X1.heap.size;have H:=H.new #[Aa Ab 0,Aa Ab 0,Ad Ae 0 0] 28 hT;have aa:=aa.alloc (.cells #[Aa Ab 0,Aa Ab 0,Ad Ae 0 0] 28);have TR:W1.heap.size<=T:=hT▸hb.size;have hb:=hb.alloc hb.size (.cells #[Aa Ab 0,Aa Ab 0,Ad Ae 0 0] 28);refine rdy 6 (λK hK=>?_);go_simp;refine hK.o (ag.out _ hb) (λhS=>?_);clear hK K hT;generalize X1.alloc _=XA at H hb hS aa⊢;rotate_left;obtain⟨T,hT⟩:=ey X0.heap.size;have H:=H.new #[Aa Ab 0,Aa Ab 0,Ad Ae 0 0] 28 hT;have TR:W1.heap.size<=T:=hT▸hb.size;have hb:=hb.alloc hb.size (.cells #[Aa Ab 0,Aa Ab 0,Ad Ae 0 0] 28);go_simp;refine hK.o (ag.out _ hb) (λhS=>?_);clear hK K hT;generalize X0.alloc _=X1 at H hb hS⊢;refine rdy 4 (λK hK=>?_);go_simp;refine(ZS.out _ H.below).mono ?_;rintro e X2 ⟨v,rfl,aa,ad⟩;obtain⟨A',c',rfl,-,-,-⟩:=Mi aa;have aa:=Nn aa H.below.size;have H:=H.call ad;have hb:=Up hb ad;refine hK.o (ag.out _ hb) (λhS=>?_);clear hK K ad;refine Ke 5 ?_;generalize X2=XA at H hb hS aa⊢
  all_goals
   have HC:=Ah (Bi3 (a:=a) (b:=b) H aa);obtain⟨⟨y0,y1,y2⟩,z0,z1,z2⟩:=Hg (H.b 2);have hb:=((hb.setCell (p:=⟨T,0,Ae⟩) TR (Aa Ab a)).setCell (p:=⟨T,1,Ae⟩) TR (Aa Ab b)).setCell (p:=⟨T,2,Ae⟩) TR (Ad A' pn c');clear H aa;refine rdy 7 (λK hK=>?_);go_simp;refine hK.o (ag.out _ hb) (λhS=>?_);clear hK K;refine An Gx ?_ _;go_wp2;go_meet;exact⟨T,A',c',rfl,HC⟩
 obtain⟨T,A0,c0,rfl,HC⟩:=hcut
 have fx:Hid (∃A c,CsI w (csL a b pA pn pc N R T) wc (pn+0) (crs (cr++Lz (l.take 0) kf)) A c):=Ah ⟨A0,c0,by
  have e:cr++Lz (l.take 0) kf=cr:=by simp[Lz]
  rw[e];exact HC.out⟩
 clear HC ZS a0 a1 a2 H;go_wp2
 go_loopw [18] (λFW wr=>∃k:Nat,k<=nl/\FW= Aa Ab k/\Hid (∃A c,CsI w (csL a b pA pn pc N R T) wr (pn+k) (crs (cr++Lz (l.take k) kf)) A c)) (λFW _=>nl-(intOf FW).toNat)
 case atStart=>exact⟨0,Gv,rfl,fx⟩
 obtain⟨k,hk,rfl,HZ⟩:=hrel;clear fx;by_cases ac:k<nl
 ·have q0:(k:Int)<(nl:Int):=Gv;have be:k<l.length:=oHx qk.out;obtain⟨A9,c9,vg⟩:=HZ.out;obtain⟨bu,ou,D5,-,d0,d1⟩:=Aa4 (HUR.out _ vg.bx.below) k be;have kg:=vL l kf k be;have ni:=λ(w':Aj) (hb:Below w.heap.size w w')=>IT.out w' hb l[k] (Ay be);obtain⟨⟨i,e⟩,hu⟩:=ey (l[k]);rw[hu]at d0 d1 kg ni;dsimp only at d0 d1 kg ni;obtain⟨k9,ur⟩:=ey (kf i);rw[ur]at kg ni;obtain⟨X,hX⟩:=ey wr.heap.size;have H:=(Bx.start wr).new #[(i:Int),Aa Ac (e:Int)] 194 hX;have pd:=Zz wr (λw' hb=>ni w' (vg.bx.below.trans (hb.mono vg.bx.below.size)));have xd:=Ah kg;have ZR:=Ah vg;subst D5;clear hu ur kg ni vg HZ be;go_upto_region 5 with fail
  try rw[hX]
  generalize wr.alloc _=W5 at H⊢;clear d0 d1;obtain⟨⟨x0,x1⟩,-⟩:=Hm (H.b 0);obtain⟨S,an,HSO⟩:=Og λW'=>W'.cell? ⟨X,0,Ae⟩=Af (Aa Ab (i:Int))/\W'.cell? ⟨X,1,Ae⟩=Af (Aa Ac (e:Int))
  have ag:Hid (∀W',W'.heap[X]? =W5.drew.heap[X]? ->S W'):=Ah λW' h=>by
   have hc:∀j v,W5.cell? ⟨X,j,Ae⟩=Af v->W'.cell? ⟨X,j,Ae⟩=Af v:=λj v hv=>by
    unfold World.cell? at hv⊢;rw[h];exact hv
   subst an;exact⟨hc _ _ x0,hc _ _ x1⟩
  have dc:Below wr.heap.size wr W5.drew:=H.below.drew
  have iu:W5.drew.cell? ⟨T,2,Ae⟩=Af (Ad A9 (pn+k) c9):=by
   obtain⟨⟨-,-,t2⟩,-⟩:=Hg ((ZR.out.below H.below).bx.b 2);exact t2
  have GV:X<W5.drew.heap.size:=H.lt 0 rfl;clear x0 x1 an;refine Ao (S:=S) Gx (ag.out _ rfl) (λhS=>?_);clear H;generalize W5.drew=Y at hS dc iu GV ag⊢;have dj:Hid (∀(Y2 W':Aj),Below Y.heap.size Y Y2->W'.heap[X]? =Y2.heap[X]? ->S W'):=Ah λY2 W' hb h=>ag.out _ (h.trans (hb.block X GV));have ex:=Ah dc;have PY:Hid (wr.heap.size<=X):=Ah Gv;have WU:=Ah GV;clear dc ag GV hX;refine Hk 0 2 3 4 ?_;refine Hk 5 6 7 8 ?_;refine Ap (rs:=[1,9]) Gx Gy (Aq rfl (λK hK=>?_) (Aq rfl (λK hK=>?_) Ar))
  ·go_simp;refine hK.o hS (λhS=>?_);clear hK K iu;refine rdy 9 (λK hK=>?_);go_simp;refine(pd.out _ ex.out).mono ?_;rintro ee Y2 ⟨rfl,bg⟩;refine hK.o (dj.out Y2 _ bg rfl) (λhS=>?_);clear hK K;have ly:=Up ex.out bg;obtain⟨LY,MP,w8,ah,⟨f8,k8⟩,xm,hC9⟩:=yO ZR.out ly Gv (i:Int) (e:Int) k9;have gu:X<Y2.heap.size:=by have:=bg.size;have:=WU.out;omega
   obtain⟨BI,xe⟩:=xm X PY.out gu;have pz:=Ah (dj.out Y2 _ bg BI);have ui:=Ah (dj.out Y2 _ bg xe);have lx:=Ah (dj.out Y2 _ bg (Eh Y2 (.cells #[(i:Int),Aa Ac (e:Int),Aa Ac k9] 192) X gu));have bf:=Ah ah;have aw:Hid (∃A c,CsI w (csL a b pA pn pc N R T) (w8.setCell ⟨T,2,Ae⟩ (Ad LY (pn+k+1) MP)) (pn+(k+1)) (crs (cr++Lz (l.take (k+1)) kf)) A c):=Ah ⟨_,_,by rw[xd.out,<-Bj,yM];exact hC9⟩;clear ly ah xm hC9 BI xe gu;refine Ke 10 ?_;refine rdy 11 (λK hK=>?_);go_simp;refine hK.o lx.out (λhS=>?_);clear hK K;refine rdy 12 (λK hK=>?_);refine Jv (by simp[Region.wanted]) (.tmp 23) (.tmp 33) 26 rfl _ _ Qo Qo _ _ bf.out ?_;refine hK.o pz.out (λhS=>?_);clear hK K;refine Ke 13 ?_;refine rdy 14 (λK hK=>?_);go_simp;refine hK.o ui.out (λhS=>?_);clear hK K hS;refine An Gx ?_ _;clear bf pz ui lx HSO dj f8 k8 ex pd;go_wp2;exact⟨⟨k+1,Gv,by go_num,aw⟩,by simp[intOf];omega⟩
  ·go_simp;refine(pd.out _ ex.out).mono ?_;rintro ee Y2 ⟨rfl,bg⟩;refine hK.o (dj.out Y2 _ bg rfl) (λhS=>?_);clear hK K;have ly:=Up ex.out bg;obtain⟨LY,MP,w8,ah,⟨f8,k8⟩,xm,hC9⟩:=yO ZR.out ly Gv (i:Int) (e:Int) k9;have gu:X<Y2.heap.size:=by have:=bg.size;have:=WU.out;omega
   obtain⟨BI,xe⟩:=xm X PY.out gu;have pz:=Ah (dj.out Y2 _ bg BI);have ui:=Ah (dj.out Y2 _ bg xe);have lx:=Ah (dj.out Y2 _ bg (Eh Y2 (.cells #[(i:Int),Aa Ac (e:Int),Aa Ac k9] 192) X gu));have bf:=Ah ah;have aw:Hid (∃A c,CsI w (csL a b pA pn pc N R T) (w8.setCell ⟨T,2,Ae⟩ (Ad LY (pn+k+1) MP)) (pn+(k+1)) (crs (cr++Lz (l.take (k+1)) kf)) A c):=Ah ⟨_,_,by rw[xd.out,<-Bj,yM];exact hC9⟩;clear ly ah xm hC9 BI xe gu;refine Ke 10 ?_;have iu:=Gw bg iu;refine Ap (rs:=[1,11]) Gx Gy (Aq rfl (λK hK=>?_) (Aq rfl (λK hK=>?_) Ar));go_simp;refine hK.o hS (λhS=>?_);clear hK K iu;refine rdy 11 (λK hK=>?_);go_simp;refine hK.o lx.out (λhS=>?_);clear hK K;rotate_left;have iu:=Gw ((Ag Y2.heap.size Y2).alloc (Am _) (.cells #[(i:Int),Aa Ac (e:Int),Aa Ac k9] 192)) iu;go_simp;refine hK.o lx.out (λhS=>?_);clear hK K;refine rdy 1 (λK hK=>?_);go_simp;refine hK.o hS (λhS=>?_);clear hK K iu
   all_goals
    refine rdy 12 (λK hK=>?_);refine Jv (by simp[Region.wanted]) (.tmp 23) (.tmp 33) 26 rfl _ _ Qo Qo _ _ bf.out ?_;refine hK.o pz.out (λhS=>?_);clear hK K;refine Ke 13 ?_;refine rdy 14 (λK hK=>?_);go_simp;refine hK.o ui.out (λhS=>?_);clear hK K hS;refine An Gx ?_ _;clear bf pz ui lx HSO dj f8 k8 ex pd;go_wp2;exact⟨⟨k+1,Gv,by go_num,aw⟩,by simp[intOf];omega⟩
 ·obtain⟨W1,rfl⟩:=ez wr;obtain rfl:k=nl:=Gv;have q0:¬(k:Int)<(k:Int):=Gv;obtain⟨A9,c9,vg⟩:=HZ.out;have ht:l.take k=l:=Bg (oHx qk.out);rw[ht]at vg;obtain⟨m,hm⟩:=ey (pn+k);rw[hm]at vg;obtain⟨L,hL⟩:=ey (cr++Lz l kf);rw[hL]at vg KY;have HLL:=Ah hL;have aa:=vg.own;rw[Cd0]at aa;have qz:=Ah (xD (L.map crT) W1 aa Gv);have QV:m<=1000000:=Gv
  have Z9:Hid (∀w4,(∃l':List CrE,l'.Perm (L.map crT)/\l'.Pairwise (λp q=>ltOf lD q p=false)/\w4.ownsRow w.heap.size 192 3 (Ad A9 m c9) m (l'.flatMap crI)/\W1.grownBy w4 (Dx (Ad A9 m c9)))->CsI w (csL a b pA pn pc N R T) w4 m (crs (Oc L)) A9 c9):=Ah (by
   rintro w4 ⟨l',hp,hs,ho,hg⟩;have e:=Bc6 hp hs KY.out;rw[<-Cc9,e]at ho;exact⟨vg.bx.grown hg (Br4 vg) (λg M3=>(vg.own.lt g M3).1),ho⟩)
  have hlen:(Oc L).length=m:=by
   have h1:=(Na L).length_eq;have h2:=vg.own.1;rw[Bi2]at h2;omega
  have IY:=Ah hlen;have hci':=Ah vg;obtain⟨⟨-,-,t2⟩,-⟩:=Hg (vg.bx.b 2);clear vg aa hlen ht hL hm HZ HUR IT;go_wp2_with fail;refine qz.out.mono ?_;rintro ee w4 ⟨rfl,AY⟩;have VX:=Ah (Z9.out w4 AY);clear t2 AY Z9 qz;obtain⟨⟨-,-,t2⟩,-⟩:=Hg (VX.out.bx.b 2);obtain⟨A',c',hv,du,-,-⟩:=Mi VX.out.own;obtain⟨rfl,rfl⟩:A9=A'/\c9=c':=by simpa using hv
  have DS:=Ah (yL A9 m c9 (crs (Oc L)) w4 du (Rd.of_own VX.out.own) (yN _) QV);clear hv du;go_wp2_with fail;refine DS.out.mono ?_;rintro ee w5 ⟨v5,rfl,vj,db⟩;obtain⟨A5,c5,rfl,hA5,hle5,hcm5⟩:=Mi vj;have CP:=Ah vj;have HA5:=Ah hA5;clear vj hA5 t2;go_wp2_with fail;refine(Bw0 A5 m c5 w5 hle5 hcm5).mono ?_;rintro ee w6 ⟨rfl,bc⟩;have H6:=(VX.out.bx.call db).call bc;have yh:=Hz CP.out (Am _) bc
  have hneT:∀g,Dx (Ad A5 m c5)=Af g->g≠T:=λg hg e=>by
   subst e;exact Xy yh (H6.b 2) He hg
  have UX:∀g,Dx (Ad A5 m c5)=Af g->g≠R:=λg hg e=>by
   subst e;exact Xy yh (H6.b 1) He hg
  obtain⟨⟨t0,t1,t2⟩,f0,f1,f2⟩:=Hg (H6.b 2);obtain⟨⟨r0,r1,r2⟩,g0,g1,g2⟩:=Hg (H6.b 1);have hTR:=H6.ne 1 2 He rfl rfl;have hRT:=hTR.symm;have H7:=(((H6.set 2 2 rfl (Ad A5 m m)).set 1 0 rfl (Aa Ab a)).set 1 1 rfl (Aa Ab b)).set 1 2 rfl (Ad A5 m m)
  have P8:((((w6.setCell ⟨T,2,Ae⟩ (Ad A5 m m)).setCell ⟨R,0,Ae⟩ (Aa Ab a)).setCell ⟨R,1,Ae⟩ (Aa Ab b)).setCell ⟨R,2,Ae⟩ (Ad A5 m m)).ownsRow w4.heap.size 192 3 (Ad A5 m c5) m (crs (Oc L)):=Io yh λg hg=>by
   rw[Dq _ ⟨R,2,Ae⟩ _ g (UX g hg),Dq _ ⟨R,1,Ae⟩ _ g (UX g hg),Dq _ ⟨R,0,Ae⟩ _ g (UX g hg),Dq _ ⟨T,2,Ae⟩ _ g (hneT g hg)]
  have HF:Hid (Ao3 a b (Oc (cr++Lz l kf)) w (.returned (.agg #[a,b,Ad A5 m m])) ((((w6.setCell ⟨T,2,Ae⟩ (Ad A5 m m)).setCell ⟨R,0,Ae⟩ (Aa Ab a)).setCell ⟨R,1,Ae⟩ (Aa Ab b)).setCell ⟨R,2,Ae⟩ (Ad A5 m m))):=Ah (by
   rw[HLL.out];exact⟨A5,c5,by rw[IY.out],by rw[IY.out];exact HA5.out.clip,by rw[IY.out];exact Nn P8 VX.out.bx.below.size,H7.below⟩)
  have H7':=Ah H7;clear yh P8 H6 H7 hneT UX db bc;go_wp2_with fail;exact Ai (Lv rfl rfl (H7'.out.range 1 rfl) Tryz.underlying28 rfl Gx) rfl HF.out
def Ix {cs:Array Ak} (h:w.heap[g]? =Af (Obj.cells cs t (0,0))) (j:Nat):w.frozen? ⟨g,j,Ae⟩=false:=by simp[World.frozen?,h]
def zeroed (W:Aj) (Q:Nat):Aj:=((((((W.setCell ⟨Q,0,Ae⟩ (Aa Ab 0)).setCell ⟨Q,1,Ae⟩ (Aa Ab 0)).setCell ⟨Q,2,Ae⟩ (Ad Ae 0 0)).setCell ⟨Q,3,Ae⟩ (Aa Ac 0)).setCell ⟨Q,4,Ae⟩ (Aa Ab 0)).setCell ⟨Q,5,Ae⟩ (Aa Ab 0)).setCell ⟨Q,6,Ae⟩ (Ad Ae 0 0)
def Bx.zeroed {N P Q:Nat} {r:List (Nat×Array Ak×Ck)} (H:Bx w ((N,sv,33)::(P,fv,tf)::(Q,stZ.toArray,33)::r) W):Bx w ((N,sv,33)::(P,fv,tf)::(Q,stZ.toArray,33)::r) (zeroed W Q):=
 ((((((H.set 2 0 rfl (Aa Ab 0)).set 2 1 rfl (Aa Ab 0)).set 2 2 rfl (Ad Ae 0 0)).set 2 3 rfl (Aa Ac 0)).set 2 4 rfl (Aa Ab 0)).set 2 5 rfl (Aa Ab 0)).set 2 6 rfl (Ad Ae 0 0)
def yS (s:St) (f:Fd):Int×Option St:=match s.mv f with
 |none=>(3,Ae)
 |some mv=>if(s.rt f).2≠0 then (3,Ae)else if(s.to f mv).chk=0 then (0,Af (s.to f mv))else (3,Ae)
def At4 (s:St) (f:Fd) (l:List (Nat×Nat)):Int×Option St:=if l.isEmpty then (7,Ae)else yS s f
def At5 (s:St) (f:Fd):s.fold f=if Qe f.k f.c f.side=false then (1,Ae)else At4 s f (Lt s f.k f.c):=yU s f
def Bw1 (s:St) (f:Fd) (pA:Option Cj) (pc:Nat) (A:Option Cj) (cc:Nat) (w:Aj) (hs:Gs s) (hA:AOk pA s.cr.length pc) (fi:Rd w pA 3 s.cr.length (crs s.cr)) (bo:Ib w A s.l) (hQ:Qf w) (hT:Tn w):
  Al Dp 23 #[.agg #[Aa Ab s.a,Aa Ab s.b,Ad pA s.cr.length pc,Aa Ac s.root.t,Aa Ab s.root.x,Aa Ab s.root.y,Ad A s.l.length cc],.agg #[Aa Ac f.k,Aa Ab f.c,Aa Ac f.side,.bool f.over]] w (Bq8 (s.do f) w):=by
 have IQ:=vG hs.root;have ni:=λ(w':Aj) (hb:Below w.heap.size w w')=>aK s.a s.b pA s.cr s.cr.length pc s.root A s.l s.l.length cc w' hs.pat rfl (fi.below hb) (oHx hs.pn) Gv rfl (bo.below hb) (oHx hs.len) (λx hx=>by have:=hs.ls x hx;omega) hs.q (hQ.below hb) (hT.below hb);have e0:St.chk ⟨s.a,s.b,s.cr,s.root,s.l⟩=0:=hs.chk;rw[e0]at ni;have pd:=Ah ni;rw[Cd1 hs];obtain⟨RR,MY⟩:=ey (s.fold f);rw[MY];have jn:=Ah (MY.symm.trans (At5 s f));clear MY;obtain⟨ov,xu⟩:=ey f.over;rw[xu];have HOVE:=Ah xu;clear xu;have si:=Ah (λho=>Bj1 (f:=f) hs ho);have EB:=Zz w (λw' hb (hL:okL f.k f.c=true)=>wA s pA pc (Ad A s.l.length cc) f.k f.c w' hs (fi.below hb) hL (hQ.below hb) (hT.below hb) rfl);have wi:=Zz w (λw' hb (hL:okL f.k f.c=true)=>Al9 A s.l s.l.length cc f.k f.c w' rfl (bo.below hb) (oHx hs.len) (λx hx=>by have:=hs.ls x hx;omega) hL (λx hx=>(hs.at x hx).1) (hQ.below hb));have WS:=Zz w (λw' hb=>Bt0 s.a s.b pA s.cr s.cr.length pc s.root w' hs.pat rfl (fi.below hb) (oHx hs.pn) Gv (hQ.below hb) (hT.below hb));have sj:=Zz w (λw' hb=>show Qf w'/\Tn w' from⟨hQ.below hb,hT.below hb⟩);have HPR:=Zz w (λw' hb=>fi.below hb);have HPA:=Ah hA;have IX:=Ah hs;have H:=(((Bx.start w).new #[Aa Ab s.a,Aa Ab s.b,Ad pA s.cr.length pc,Aa Ac s.root.t,Aa Ab s.root.x,Aa Ab s.root.y,Ad A s.l.length cc] 33 rfl).new #[Aa Ac f.k,Aa Ab f.c,Aa Ac f.side,.bool ov] 50 (N:=w.heap.size+1) Gy).new #[Aa Ab 0,Aa Ab 0,Ad Ae 0 0,Aa Ac 0,Aa Ab 0,Aa Ab 0,Ad Ae 0 0] 33 (N:=w.heap.size+1+1) Gy;have oh:=hs.pn;have nm:=hs.len;clear hA fi bo hQ hT ni e0 hs;go_in;go_upto_region 1 with fail
 obtain⟨N,ct⟩:=Tw w.heap.size;rw[<-ct.out]at H⊢;obtain⟨P,hP⟩:=ey (N+1);rw[hP]at H⊢;generalize P+1=Q at H⊢;clear hP;generalize ((w.alloc _).alloc _).alloc _=W1 at H⊢;obtain⟨a0,a1,a2,a3,a4,a5,a6⟩:=Kg (H.b 0);go_wp2_with fail;refine(pd.out _ H.below).mono ?_;rintro ee w2 ⟨rfl,hb⟩;have H2:=H.call hb;clear a0 a1 a2 a3 a4 a5 a6 hb H pd;obtain⟨⟨b0,b1,b2,b3⟩,-⟩:=Jh (H2.b 1);go_wp2_with fail;refine(gX f.k f.c f.side ov w2).mono ?_;rintro ee w3 ⟨rfl,hb⟩;have H3:=H2.call hb;clear b0 b1 b2 b3 hb H2
 cases dw:Qe f.k f.c f.side with
 |false=>
  have hR:RR=(1,Ae):=by rw[jn.out,Hc dw]
  rw[Qm];subst hR;obtain⟨z0,z1,z2,z3,z4,z5,z6⟩:=Kg (H3.b 2);have y0:=Ix (H3.b 2) 0;have y1:=Ix (H3.b 2) 1;have y2:=Ix (H3.b 2) 2;have y3:=Ix (H3.b 2) 3;have y4:=Ix (H3.b 2) 4;have y5:=Ix (H3.b 2) 5;have y6:=Ix (H3.b 2) 6;have HZ:=Ah H3.zeroed;clear H3;go_wp2_with fail;exact Ai (Hj rfl rfl (HZ.out.range 2 rfl) Tryz.underlying33 rfl Gx) rfl ⟨HZ.out.below,.inl ⟨rfl,rfl⟩⟩
 |true=>
  have fy:=si.out dw;have hR2:RR=At4 s f (Lt s f.k f.c):=by rw[jn.out,Ha (by rw[dw];decide)]
  have ff:=Ah hR2;have uh:=Ah fy;have DG:=(Mu.1 fy.okl).1;have QY:=qD fy.okl;rw[Lq];clear dw hR2 jn si fy;obtain⟨a0,a1,a2,a3,a4,a5,a6⟩:=Kg (H3.b 0);obtain⟨⟨b0,b1,b2,b3⟩,-⟩:=Jh (H3.b 1);go_wp2_with fail;refine(EB.out _ H3.below uh.out.okl).mono ?_;rintro ee w4 ⟨AP,cP,B,rfl,hrP,OS,hb⟩;have H4:=H3.call hb;clear a0 a1 a2 a3 a4 a5 a6 b0 b1 b2 b3 hb H3 EB;obtain⟨PL,hPL⟩:=ey (Lt s f.k f.c);rw[hPL]at hrP ff⊢;obtain⟨np,oc⟩:=ey PL.length;rw[oc]at hrP⊢;obtain⟨SS,TQ⟩:=ey (bL s f.k f.c);rw[TQ]at OS⊢;obtain⟨ns,hns⟩:=ey SS.length;rw[hns]at OS⊢;have na:=Ah hPL;have PT:=Ah oc;have zc:=Ah TQ;have HNS:=Ah hns;have HRP:=Zz w4 (λw' hb=>hrP.below hb);have HRS:=Zz w4 (λw' hb=>OS.below hb);clear hPL oc TQ hns hrP OS;by_cases mu:np=0
  ·have hR:RR=(7,Ae):=by
    rw[ff.out];have:=Et.1 (PT.out.trans mu);rw[this];rfl
   subst mu;subst hR;obtain⟨z0,z1,z2,z3,z4,z5,z6⟩:=Kg (H4.b 2);have y0:=Ix (H4.b 2) 0;have y1:=Ix (H4.b 2) 1;have y2:=Ix (H4.b 2) 2;have y3:=Ix (H4.b 2) 3;have y4:=Ix (H4.b 2) 4;have y5:=Ix (H4.b 2) 5;have y6:=Ix (H4.b 2) 6;have HZ:=Ah H4.zeroed;clear H4;go_wp2_with fail;exact Ai (Hj rfl rfl (HZ.out.range 2 rfl) Tryz.underlying33 rfl Gx) rfl ⟨HZ.out.below,.inl ⟨rfl,rfl⟩⟩
  ·have q0:((np:Int)==0)=false:=by rw[beq_eq_false_iff_ne];omega
   have hR3:RR=yS s f:=by
    rw[ff.out];unfold At4;rw[Ha];intro h;have:PL=[]:=by simpa using h
    exact mu (by rw[<-PT.out,this];rfl)
   have sk:=Ah hR3;have f_:=Ah mu;clear hR3 ff mu;have rp:=Xu f.k f.c w4 Gv;rw[QY]at rp;obtain⟨m,hm⟩:=ey (ofL f.k f.c);rw[hm]at rp;unfold mvR Mv.v at rp;dsimp only at rp;have HM:=Ah hm;have DY:=Ah rp;clear rp QY hm;obtain⟨⟨b0,b1,b2,b3⟩,-⟩:=Jh (H4.b 1);go_wp2_with fail;refine DY.out.mono ?_;rintro ee w5 ⟨rfl,hb⟩;have H5:=H4.call hb;have J6:=hb;clear b0 b1 b2 b3 hb H4 DY;obtain⟨MB,hMB⟩:=ey w5.heap.size;have H6:=H5.new #[Aa Ac (m.t:Int),Aa Ab m.x,Aa Ab m.y] 30 hMB;have TW:=J6.alloc J6.size (.cells #[Aa Ac (m.t:Int),Aa Ab m.x,Aa Ab m.y] 30);clear H5 J6;go_upto_region 13 with fail
   try rw[hMB]
   generalize w5.alloc _=W6 at H6 TW⊢;clear hMB;obtain⟨a0,a1,a2,a3,a4,a5,a6⟩:=Kg (H6.b 0);obtain⟨⟨b0,b1,b2,b3⟩,-⟩:=Jh (H6.b 1);go_wp2_with fail;refine(wi.out _ H6.below uh.out.okl).mono ?_;rintro ee w7 ⟨A0,A1,rfl,ud,gr,hb⟩;have H7:=H6.call hb;have J7:=Up TW hb;clear a0 a1 a2 a3 a4 a5 a6 b0 b1 b2 b3 hb H6 wi TW;obtain⟨⟨b0,b1,b2,b3⟩,-⟩:=Jh (H7.b 1);have x6:=Ah (Cn ud gr);have yk:=uh.out.side;clear ud gr;go_upto_if 69 with fail;go_cut [16,17]from 67 to 71 (λs16 s17 wx=>∃AS AW,s16= Ad AS (Hx f.k f.c (1-f.side) s.l).length (Hx f.k f.c (1-f.side) s.l).length/\s17= Ad AW (Hx f.k f.c f.side s.l).length (Hx f.k f.c f.side s.l).length/\Hid (Ib w7 AS (Hx f.k f.c (1-f.side) s.l)/\Ib w7 AW (Hx f.k f.c f.side s.l))/\w7=wx)
   case first=>
    by_cases hz:f.side=0
    ·have q1:((f.side:Int)==0)=true:=by rw[hz];rfl
     go_wp2;go_meet;rw[hz];exact⟨A1,A0,rfl,rfl,Ah ⟨x6.out.2,x6.out.1⟩,rfl⟩
    ·have q1:((f.side:Int)==0)=false:=by rw[beq_eq_false_iff_ne];omega
     have ap:f.side=1:=Gv;go_wp2;go_meet;rw[ap];exact⟨A0,A1,rfl,rfl,Ah x6.out,rfl⟩
   obtain⟨AS,AW,rfl,rfl,uy,rfl⟩:=hcut;obtain⟨SL,hSL⟩:=ey (Hx f.k f.c (1-f.side) s.l);obtain⟨SW,xk⟩:=ey (Hx f.k f.c f.side s.l);have S9:=uh.out.sp (1-f.side);have VE:=uh.out.rv;have T0:=uh.out.sp f.side
   have hmvE:s.mv f=Rx m (Mj SW):=by
    show Rx (ofL f.k f.c) (Mj (Hx f.k f.c f.side s.l))=_;rw[HM.out,xk]
   rw[hSL]at uy S9⊢;rw[xk]at uy VE T0⊢;obtain⟨nS,hnS⟩:=ey SL.length;obtain⟨nW,T_⟩:=ey SW.length;have MN:=Zz w7 (λw' hb=>rH AW SW SW.length SW.length w' rfl (uy.out.2.below hb) Gv (λx hx=>by have:=T0.2.2.2 x hx;omega));have HMVC:=Zz w7 (λw' hb (A':Option Cj) (c':Nat) (ha:Ib w' A' (Mj SW))=>vE A' (Mj SW) (Mj SW).length c' m w' rfl ha Gv (λx hx=>by have:=VE.2.2.2 x hx;omega) (by rw[<-HM.out];exact uh.out.mok) VE.2.2.1 (oHx (vG (HM.out▸uh.out.mok))) (sj.out w' (Up H7.below hb)).1 (sj.out w' (Up H7.below hb)).2);rw[hnS,T_];rw[T_]at MN;have EG:=Ah hSL;have HSWE:=Ah xk;have SM:=Ah hnS;have HNW:=Ah T_;have HME:=Ah hmvE;have BG:=Ah S9;clear hSL xk S9 VE T0 hmvE hnS T_;obtain⟨⟨m0,m1,m2⟩,-⟩:=Hg (H7.b 3);obtain⟨S,an,HSO⟩:=Og λW'=>W'.cell? ⟨MB,0,Ae⟩=Af (Aa Ac (m.t:Int))/\W'.cell? ⟨MB,1,Ae⟩=Af (Aa Ab m.x)/\W'.cell? ⟨MB,2,Ae⟩=Af (Aa Ab m.y)
   have ag:Hid (∀W',Below w7.heap.size w7 W'->S W'):=Ah λW' h=>by
    subst an;exact⟨Gw h m0,Gw h m1,Gw h m2⟩
   clear an m0 m1 m2;go_upto_region 17 with fail;refine Ao (S:=S) Gx (ag.out _ (Ag _ _).drew) (λhS=>?_);have hb:Below w7.heap.size w7 w7.drew:=(Ag _ _).drew;have H8:=H7.drew;generalize w7.drew=X0 at hb hS H8⊢;refine Ql 0 2 ?_;refine rdy 1 (λK hK=>?_);go_simp;refine(MN.out _ hb).mono ?_;rintro e X1 ⟨AR,cR,zR,rfl,hoR,hzR,ad⟩;have hrs:=hoR.stks;rw[hzR]at hrs;have H8:=H8.call ad;have hb:=Up hb ad;refine hK.o (ag.out _ hb) (λhS=>?_);have OD:=HMVC.out _ hb AR cR hrs;clear hK K ad hoR hzR hrs;refine rdy 3 (λK hK=>?_);go_simp;refine OD.mono ?_;rintro e X2 ⟨ad,ij⟩;have H8:=H8.call ad;have hb:=Up hb ad;rcases ij with⟨qg,rfl⟩|⟨mv,AM,cM,zM,OY,rfl,hoM,hzM⟩
   ·refine hK.o (ag.out _ hb) (λhS=>?_);clear hK K ad OD;refine Hk 4 5 6 7 ?_;refine Ke 8 ?_;refine An Gx ?_ _
    have hR:RR=(3,Ae):=by
     rw[sk.out];unfold yS;rw[HME.out,qg]
    subst hR;obtain⟨z0,z1,z2,z3,z4,z5,z6⟩:=Kg (H8.b 2);have y0:=Ix (H8.b 2) 0;have y1:=Ix (H8.b 2) 1;have y2:=Ix (H8.b 2) 2;have y3:=Ix (H8.b 2) 3;have y4:=Ix (H8.b 2) 4;have y5:=Ix (H8.b 2) 5;have y6:=Ix (H8.b 2) 6;have HZ:=Ah H8.zeroed;clear H8;go_wp2_with fail;exact Ai (Hj rfl rfl (HZ.out.range 2 rfl) Tryz.underlying33 rfl Gx) rfl ⟨HZ.out.below,.inl ⟨rfl,rfl⟩⟩
   ·refine hK.o (ag.out _ hb) (λhS=>?_);have OF:=hoM.stks;rw[hzM]at OF;clear hK K ad OD hoM hzM;refine Hk 4 5 6 7 ?_;refine Ke 8 ?_;refine An Gx ?_ _;clear hS HSO ag MN HMVC;have hmvI:=uh.out.mvd (HME.out.trans OY)
    have hR4:RR=if(s.rt f).2≠0 then (3,Ae)else if(s.to f mv).chk=0 then (0,Af (s.to f mv))else (3,Ae):=by
     rw[sk.out];unfold yS;rw[HME.out,OY]
    have CQ:=Ah hR4;have WD:=Ah hmvI;obtain⟨nM,hnM⟩:=ey mv.length;rw[hnM];have GG:=Ah hnM;have JH:=Zz X2 (λw' hb'=>show Ib w' AS SL/\Ib w' AM mv from⟨(uy.out.1.below hb).below (hb'.mono (Am _)),OF.below hb'⟩);have yq:Hid (Below w4.heap.size w4 X2):=Ah (Up J7 hb);obtain⟨zh,G6⟩:=ey X2.heap.size;have HOX:Hid (X2.heap.size<=zh):=Ah Gv;have HQO:Hid (Q<zh):=Ah (oHx (H8.lt 2 rfl));have H9:=H8.new #[Aa Ab 0,Aa Ab 0,Ad Ae 0 0,Aa Ac (s.root.t:Int),Aa Ab s.root.x,Aa Ab s.root.y,Ad Ae 0 0] 33 G6;have bg:=(Ag X2.heap.size X2).alloc (Am _) (.cells #[Aa Ab 0,Aa Ab 0,Ad Ae 0 0,Aa Ac (s.root.t:Int),Aa Ab s.root.x,Aa Ab s.root.y,Ad Ae 0 0] 33);obtain⟨a0,a1,a2,a3,a4,a5,a6⟩:=Kg (H8.b 0);clear hR4 sk hnM OF hb J7 hmvI OY HME uy H8 H7;go_upto_region 21 with fail
    try rw[G6]
    generalize X2.alloc _=W9 at H9 bg⊢;clear a0 a1 a2 a3 a4 a5 a6 G6;obtain⟨⟨b0,b1,b2,b3⟩,-⟩:=Jh (H9.b 1)
    have ob:0<(Ie s.a s.b s.cr s.root).1.2.length:=by
     rw[IX.out.img_len];have:=(Lh IX.out.pat.sheet).2.1;omega
    have ud:=jW (s:=s) f.k f.c 0 ob;rw[zc.out]at ud;obtain⟨s0,R8⟩:=ey (Is f.k f.c (s.img 0));rw[R8]at ud;have P7:0<SS.length:=(List.getElem?_eq_some_iff.1 ud).1;obtain⟨bB,oB,CV,-,d0⟩:=Rp (HRS.out _ (Up yq.out bg)) 0 P7
    have hs0v:SS[0]=s0:=by
     rw[Aw P7]at ud;simpa using ud
    rw[hs0v,Df]at d0;have q2:(0:Int)<(ns:Int):=by rw[<-HNS.out];omega
    have SU:=Ah R8;subst CV;clear ob ud R8 P7 hs0v
    go_quiet (fail)
    have wv:=H9.drewN nq;have gm:=Ic bg nq;generalize W9.drewN nq=W10 at wv gm⊢;clear d0 b0 b1 b2 b3 H9 bg;obtain⟨rr,ja⟩:=ey (s.rt f);rw[ja]at CQ;obtain⟨⟨r9,er9⟩,DK⟩:=ey (Vq s.root m)
    have hrq:s0=f.side->rr=(r9,er9):=λh=>by
     rw[<-ja,<-DK];unfold St.rt;rw[SU.out,Hc h,HM.out]
    have hrn:s0≠f.side->rr=(s.root,0):=λh=>by
     rw[<-ja];unfold St.rt;rw[SU.out,Ha h]
    have y7:=Zz w (λw' hb=>show Al Dp 71 #[.agg #[Aa Ac s.root.t,Aa Ab s.root.x,Aa Ab s.root.y],.agg #[Aa Ac m.t,Aa Ab m.x,Aa Ab m.y]] w' (Gz (.tuple #[.agg #[Aa Ac r9.t,Aa Ab r9.x,Aa Ab r9.y],er9]) w')by
     have h1:=bM s.root m w' Gv (oHx (vG (HM.out▸uh.out.mok))) (sj.out w' hb).2;have h2:=uh.out.then;rw[HM.out]at h2;rw[h2,DK]at h1;exact h1)
    have HRRQ:=Ah ja;have HRQ:=Ah hrq;have HRN:=Ah hrn;clear ja hrq hrn DK;go_upto_if 91 with fail;go_cut [10]from 91 to 102 (λ_ wx=>Hid (Bx w [(N,#[Aa Ab s.a,Aa Ab s.b,Ad pA s.cr.length pc,Aa Ac s.root.t,Aa Ab s.root.x,Aa Ab s.root.y,Ad A s.l.length cc],33),(P,#[Aa Ac f.k,Aa Ab f.c,Aa Ac f.side,.bool ov],50),(Q,#[Aa Ab 0,Aa Ab 0,Ad Ae 0 0,Aa Ac 0,Aa Ab 0,Aa Ab 0,Ad Ae 0 0],33),(MB,#[Aa Ac (m.t:Int),Aa Ab m.x,Aa Ab m.y],30),(zh,#[Aa Ab 0,Aa Ab 0,Ad Ae 0 0,Aa Ac (rr.1.t:Int),Aa Ab rr.1.x,Aa Ab rr.1.y,Ad Ae 0 0],33)] wx/\Below X2.heap.size X2 wx)/\Hid (rr.2=0))
    case first=>
     by_cases hq:s0=f.side
     ·have q3:((s0:Int)==(f.side:Int))=true:=by rw[hq];exact beq_self_eq_true _
      have ja:=HRQ.out hq;clear hq;obtain⟨o0,o1,o2,o3,o4,o5,o6⟩:=Kg (wv.b 4);have p3:=Ix (wv.b 4) 3;obtain⟨a0,a1,a2,a3,a4,a5,a6⟩:=Kg (wv.b 0);obtain⟨⟨m0,m1,m2⟩,-⟩:=Hg (wv.b 3);clear o0 o1 o2 o3 o4 o5 o6 p3;go_wp2_with fail;refine(y7.out _ wv.below).mono ?_;rintro ee DO ⟨rfl,hb⟩;have FY:=wv.call hb;have jh:=Up gm hb;clear a0 a1 a2 a3 a4 a5 a6 m0 m1 m2 hb wv gm;obtain⟨o0,o1,o2,o3,o4,o5,o6⟩:=Kg (FY.b 4);have p3:=Ix (FY.b 4) 3;have p4:=Ix (FY.b 4) 4;have p5:=Ix (FY.b 4) 5;have yp:=((FY.set 4 3 rfl (Aa Ac (r9.t:Int))).set 4 4 rfl (Aa Ab r9.x)).set 4 5 rfl (Aa Ab r9.y);have QK:X2.heap.size<=zh:=HOX.out;have BO:=((jh.setCell (p:=⟨zh,3,Ae⟩) QK (Aa Ac (r9.t:Int))).setCell (p:=⟨zh,4,Ae⟩) QK (Aa Ab r9.x)).setCell (p:=⟨zh,5,Ae⟩) QK (Aa Ab r9.y);clear FY jh QK;go_upto_region 23 with fail;generalize ((DO.setCell _ _).setCell _ _).setCell _ _=W12 at yp BO⊢;clear o0 o1 o2 o3 o4 o5 o6 p3 p4 p5;by_cases he:er9=0
      ·subst he;go_wp2;go_meet;rw[ja];exact⟨Ah ⟨yp,BO⟩,Ah rfl⟩
      ·have q4:(er9 != 0)=true:=by simpa using he
       have hR:RR=(3,Ae):=by
        rw[CQ.out,Hc];rw[ja];exact he
       have yp:Bx w [(N,#[Aa Ab s.a,Aa Ab s.b,Ad pA s.cr.length pc,Aa Ac s.root.t,Aa Ab s.root.x,Aa Ab s.root.y,Ad A s.l.length cc],33),(P,#[Aa Ac f.k,Aa Ab f.c,Aa Ac f.side,.bool ov],50),(Q,#[Aa Ab 0,Aa Ab 0,Ad Ae 0 0,Aa Ac 0,Aa Ab 0,Aa Ab 0,Ad Ae 0 0],33)] W12:=yp.upto 3;subst hR;obtain⟨z0,z1,z2,z3,z4,z5,z6⟩:=Kg (yp.b 2);have y0:=Ix (yp.b 2) 0;have y1:=Ix (yp.b 2) 1;have y2:=Ix (yp.b 2) 2;have y3:=Ix (yp.b 2) 3;have y4:=Ix (yp.b 2) 4;have y5:=Ix (yp.b 2) 5;have y6:=Ix (yp.b 2) 6;have HZ:=Ah yp.zeroed;clear yp;go_wp2_with fail;exact Ai (Hj rfl rfl (HZ.out.range 2 rfl) Tryz.underlying33 rfl Gx) rfl ⟨HZ.out.below,.inl ⟨rfl,rfl⟩⟩
     ·have q3:((s0:Int)==(f.side:Int))=false:=by rw[beq_eq_false_iff_ne];omega
      have ja:=HRN.out hq;go_wp2;go_meet;rw[ja];exact⟨Ah ⟨wv,gm⟩,Ah rfl⟩
    obtain⟨HH,HR0⟩:=hcut
    have hR5:RR=if(s.to f mv).chk=0 then (0,Af (s.to f mv))else (3,Ae):=by
     rw[CQ.out,Ha (λh=>h HR0.out)]
    have yz:=Ah hR5;clear hR5 CQ wv gm y7 HRQ HRN;obtain⟨FY,jh⟩:=HH.out;have bo:=JH.out _ jh
    have xu:=λ(w':Aj) (hb:Below X2.heap.size X2 w')=>fU AS AM SL mv nS nM nS cM w' (JH.out _ hb).1 (JH.out _ hb).2 SM.out.symm GG.out.symm (by have h1:=BG.out.1;have h2:=SM.out;omega) (by have h1:=WD.out.1;have h2:=GG.out;omega) (by rw[Zw];have h1:=BG.out.2.1;have h2:=WD.out.2.1;omega) (λx hx=>by
     rcases Bl.1 hx with hx|hx
     ·exact vQ (BG.out.2.2.1 x hx)
     ·exact vQ (WD.out.2.2.1 x hx))
    have hov2:=λ(w':Aj) (hb:Below X2.heap.size X2 w')=>fU AM AS mv SL nM nS cM nS w' (JH.out _ hb).2 (JH.out _ hb).1 GG.out.symm SM.out.symm (by have h1:=WD.out.1;have h2:=GG.out;omega) (by have h1:=BG.out.1;have h2:=SM.out;omega) (by rw[Zw];have h1:=BG.out.2.1;have h2:=WD.out.2.1;omega) (λx hx=>by
     rcases Bl.1 hx with hx|hx
     ·exact vQ (WD.out.2.2.1 x hx)
     ·exact vQ (BG.out.2.2.1 x hx))
    have j9:=Ah xu;have HOV2:=Ah hov2;clear xu hov2 bo HH;go_wp2_with fail;refine(j9.out _ jh).mono ?_;rintro ee RP ⟨AO,cO,zO,rfl,RD,VO,hb⟩;have yp:=FY.call hb;have BO:=Up jh hb;have LL:=FY.lt 4 rfl;have QK:=HOX.out;obtain⟨o0,o1,o2,o3,o4,o5,o6⟩:=Kg (yp.b 4);have p6:=Ix (yp.b 4) 6;have VV:=yp.set 4 6 rfl (Ad AO (Kc SL mv).length (Kc SL mv).length);have ET:=BO.setCell (p:=⟨zh,6,Ae⟩) QK (Ad AO (Kc SL mv).length (Kc SL mv).length);have OJ:=(RD.setLow LL 6 (Ad AO (Kc SL mv).length (Kc SL mv).length)).base (O':=zh+1) LL;have hzO':=Ah VO;clear yp BO RD LL QK VO hb FY jh;go_upto_region 26 with fail;generalize RP.setCell _ _=W13 at VV ET OJ⊢;clear o0 o1 o2 o3 o4 o5 o6 p6;obtain⟨⟨b0,b1,b2,b3⟩,-⟩:=Jh (VV.b 1);obtain⟨TL,F_⟩:=ey ((if ov then Kc SL mv else Kc mv SL));have hTL1:ov=true->Kc SL mv=TL:=λh=>by rw[<-F_,Hc h]
    have hTL2:ov=false->Kc mv SL=TL:=λh=>by rw[<-F_,Ha (by rw[h];decide)]
    have WN:=Ah hTL1;have HT2:=Ah hTL2;have HTL:=Ah F_;clear F_ hTL1 hTL2;go_upto_if 109 with fail;go_cut [110]from 107 to 113 (λ_ wx=>∃(AT:Option Cj) (cT:Nat) (zT:List SkR),Hid (Bx w [(N,#[Aa Ab s.a,Aa Ab s.b,Ad pA s.cr.length pc,Aa Ac s.root.t,Aa Ab s.root.x,Aa Ab s.root.y,Ad A s.l.length cc],33),(P,#[Aa Ac f.k,Aa Ab f.c,Aa Ac f.side,.bool ov],50),(Q,#[Aa Ab 0,Aa Ab 0,Ad Ae 0 0,Aa Ac 0,Aa Ab 0,Aa Ab 0,Ad Ae 0 0],33),(MB,#[Aa Ac (m.t:Int),Aa Ab m.x,Aa Ab m.y],30),(zh,#[Aa Ab 0,Aa Ab 0,Ad Ae 0 0,Aa Ac (rr.1.t:Int),Aa Ab rr.1.x,Aa Ab rr.1.y,Ad AT TL.length TL.length],33)] wx/\Below X2.heap.size X2 wx)/\Hid (Ia (zh+1) wx (Ad AT TL.length cT) zT/\zT.map (·.1)=TL))
    case first=>
     cases ov with
     |true=>
      have HE:=Ah (WN.out rfl);go_wp2;go_meet;rw[HE.out]at VV OJ;exact⟨AO,cO,zO,Ah ⟨VV,ET⟩,Ah ⟨OJ,hzO'.out.trans HE.out⟩⟩
     |false=>
      have e:=HT2.out rfl;have HE:=Ah e;clear e;go_wp2_with fail;refine(HOV2.out _ ET).mono ?_;rintro ee w14 ⟨AO2,cO2,zO2,rfl,RD,VO,hb⟩;have H14:=VV.call hb;have hb14:=Up ET hb;have LL:=VV.lt 4 rfl;have QK:=HOX.out;obtain⟨o0,o1,o2,o3,o4,o5,o6⟩:=Kg (H14.b 4);have p6:=Ix (H14.b 4) 6;rw[HE.out]at RD VO⊢;have H15:=H14.set 4 6 rfl (Ad AO2 TL.length TL.length);have hb15:=hb14.setCell (p:=⟨zh,6,Ae⟩) QK (Ad AO2 TL.length TL.length);have ho15:=(RD.setLow LL 6 (Ad AO2 TL.length TL.length)).base (O':=zh+1) LL;have HJ:=Ah (Cn H15 (Cn hb15 (Cn ho15 VO)));clear H14 hb14 RD LL QK VO hb H15 hb15 ho15 VV ET OJ b0 b1 b2 b3;go_wp2;go_meet;exact⟨AO2,cO2,zO2,Ah ⟨HJ.out.1,HJ.out.2.1⟩,Ah HJ.out.2.2⟩
    obtain⟨AT,cT,zT,HH,HOT⟩:=hcut;have H16:=HH.out.1;have J2:=HH.out.2;clear HH VV ET OJ b0 b1 b2 b3 j9 HOV2 JH
    have hup0:(upF s.a s.b s.cr s.root).2=0:=by
     unfold upF;rw[Ha (λh=>h IX.out.both)]
    have VI:(upF s.a s.b s.cr s.root).1.length=Hh s.a s.b:=Bf3 IX.out.stk;have FR:=WS.out _ H16.below;rw[hup0]at FR;obtain⟨up,U5⟩:=ey ((upF s.a s.b s.cr s.root).1);rw[U5]at FR VI;obtain⟨nu,pr⟩:=ey up.length;rw[pr]at FR VI;have WR:=Ah VI;have LC:=Ah pr;have HUE:=Ah U5;have HUPC:=Ah FR;clear hup0 FR U5 pr VI WS;obtain⟨a0,a1,a2,a3,a4,a5,a6⟩:=Kg (H16.b 0);go_wp2_with fail;refine HUPC.out.mono ?_;rintro ee PK ⟨hb,⟨h0,-⟩|⟨-,GU,rfl,jz,hGU⟩⟩
    ·exact absurd rfl h0
    have H17:=H16.call hb;have J3:=Up J2 hb;have hrU:Rd PK (Af ⟨GU,0,Ae⟩) 1 nu (If up):=Ug hGU (by simp[If,LC.out]);have j7:=Ah (Cn (HOT.out.1.below hb) HOT.out.2);clear a0 a1 a2 a3 a4 a5 a6 jz hGU HUPC H16 J2 HOT hb;obtain⟨UB,hUB⟩:=ey PK.heap.size;have PM:=H17.new #[Ad (Af ⟨GU,0,Ae⟩) nu nu] 82 hUB;have cg:=(Ag PK.heap.size PK).alloc (Am _) (.cells #[Ad (Af ⟨GU,0,Ae⟩) nu nu] 82);have ND:=Up J3 cg;have OT:=hrU.below cg;have SP:=Ah (Cn (j7.out.1.below cg) j7.out.2);clear H17 J3 hrU cg j7;go_upto_region 29 with fail
    try rw[hUB]
    generalize PK.alloc _=W18 at PM ND OT SP⊢;clear hUB
    have hPLb:∀u∈PL,u.1<nu:=λu hu=>by
     have h1:=(Qw (s:=s) (k:=f.k) (c:=f.c) (u:=u) (by rw[na.out];exact hu)).1;have h2:=(Nb h1).2.1;have h3:=WR.out;omega
    have oc:np<=3072:=by
     have h1:PL.length<=(Ko s.a s.b).length:=by rw[<-na.out,qN];exact List.length_filter_le _ _
     have h2:=Sb s.a s.b (3*Hh s.a s.b);have h3:=Sx IX.out.pat.sheet;have h4:=PT.out;unfold Ko at h1;omega
    have hkf:∀u:Nat×Nat,(if up.getD u.1 false=ov then (2:Int)else 1)=s.kf f u.1:=λu=>by
     unfold St.kf;rw[HUE.out,HOVE.out]
    have HQW0:Hid (Q<W18.heap.size):=Ah (PM.lt 2 rfl);have HWW:=Ah PM.below.size;have hub:=qJ (PM.b 5);have xv:=(Jh (PM.b 1)).1.2.2.2
    have L3:=oC s.a s.b pA s.cr s.cr.length pc AP PL np cP UB P (s.kf f) W18 rfl HPA.out (HPR.out _ PM.below) Gv PT.out.symm (HRP.out _ (Up yq.out ND)) oc (by rw[<-na.out];exact jI IX.out.pat f.k f.c (s.kf f)) (λw' hb u hu=>by
     have h:=tQ u.1 UB P (Af ⟨GU,0,Ae⟩) nu nu up ov w' LC.out.symm (OT.below hb) (hPLb u hu) (Gw hb hub) (Gw hb xv)
     rwa [hkf u]at h)
    obtain⟨CR,hCR⟩:=ey (Oc (s.cr++Lz PL (s.kf f)));rw[hCR]at L3
    have hto:s.to f mv=⟨s.a,s.b,CR,rr.1,TL⟩:=by
     unfold St.to;rw[na.out,hCR,HRRQ.out,EG.out,HOVE.out];exact congrArg _ HTL.out
    have MO:=Ah hto;have R':=Ah L3;obtain⟨nC,hnC⟩:=ey CR.length;clear hPLb hkf hub xv L3 hto hCR OT;obtain⟨a0,a1,a2,a3,a4,a5,a6⟩:=Kg (PM.b 0);go_wp2_with fail;refine R'.out.mono ?_;rintro ee w19 ⟨AC,cC,rfl,hAC,hoC,hb⟩;rw[hnC]at hAC hoC⊢;have Z3:=PM.call hb;have hb19:=Up ND hb;have hO19:=SP.out.1.below hb;have LL:=PM.lt 4 rfl;have DZ:=Ah hnC;clear a0 a1 a2 a3 a4 a5 a6 hb PM ND R' hnC;obtain⟨o0,o1,o2,o3,o4,o5,o6⟩:=Kg (Z3.b 4);have p0:=Ix (Z3.b 4) 0;have p1:=Ix (Z3.b 4) 1;have p2:=Ix (Z3.b 4) 2;have VW:=((Z3.set 4 0 rfl (Aa Ab s.a)).set 4 1 rfl (Aa Ab s.b)).set 4 2 rfl (Ad AC nC nC);have IF:=Jb (Jb (Jb hoC LL 0 (Aa Ab s.a)) LL 1 (Aa Ab s.b)) LL 2 (Ad AC nC nC);have TO:=((hO19.setLow (g:=zh) Gv 0 (Aa Ab s.a)).setLow (g:=zh) Gv 1 (Aa Ab s.b)).setLow (g:=zh) Gv 2 (Ad AC nC nC);clear Z3 hb19 hO19 hoC LL;go_upto_region 30 with fail;generalize ((w19.setCell _ _).setCell _ _).setCell _ _=W20 at VW IF TO⊢;clear o0 o1 o2 o3 o4 o5 o6 p0 p1 p2;have dh:=uh.out.up BG.out WD.out;have hbd2:=uh.out.up WD.out BG.out
    have hTb:TL.length<=2048/\(∀x∈TL,x.ls.length<=2048)/\∀x∈TL,x.c.q<=255:=by
     rw[<-HTL.out]
     split
     ·exact dh
     ·exact hbd2
    have CB:Lo (s.to f mv).a (s.to f mv).b (s.to f mv).cr:=qI IX.out.pat f mv;have R7:=uh.out.rtt;rw[HRRQ.out]at R7;rw[MO.out]at CB;dsimp only at CB;have hstT:=TO.stksN SP.out.2;have UA:=λ(w':Aj) (hb:Below W20.heap.size W20 w')=>aK s.a s.b AC CR nC nC rr.1 AT TL TL.length TL.length w' CB DZ.out.symm ((Rd.of_own IF).below hb) (by have:=aL CB.fit CB.asc;have:=DZ.out;omega) R7 rfl (hstT.below hb) Gv (λx hx=>by have:=hTb.2.1 x hx;omega) hTb.2.2 (sj.out w' (Up VW.below hb)).1 (sj.out w' (Up VW.below hb)).2;have e9:St.chk ⟨s.a,s.b,CR,rr.1,TL⟩=(s.to f mv).chk:=by rw[MO.out]
    rw[e9]at UA;obtain⟨ck,hckv⟩:=ey ((s.to f mv).chk);rw[hckv]at UA yz;have Q':=Ah UA;have HO20:=Ah TO;have HQW:Hid (Q<W18.heap.size):=Ah HQW0.out;have HOC:=Ah IF;have E':=Ah hAC;clear dh hbd2 hTb CB R7 hstT UA e9 hckv IF TO hAC;obtain⟨o0,o1,o2,o3,o4,o5,o6⟩:=Kg (VW.b 4);go_wp2_with fail;refine(Q'.out _ (Ag _ _)).mono ?_;rintro ee w21 ⟨rfl,hb⟩;have vz:=VW.call hb;have H':=Ah hb;clear o0 o1 o2 o3 o4 o5 o6 hb VW Q';by_cases BP:ck=0
    ·subst BP;have hR:RR=(0,Af (s.to f mv)):=by rw[yz.out,Hc rfl]
     subst hR;obtain⟨o0,o1,o2,o3,o4,o5,o6⟩:=Kg (vz.b 4);obtain⟨z0,z1,z2,z3,z4,z5,z6⟩:=Kg (vz.b 2);have y0:=Ix (vz.b 2) 0;have y1:=Ix (vz.b 2) 1;have y2:=Ix (vz.b 2) 2;have y3:=Ix (vz.b 2) 3;have y4:=Ix (vz.b 2) 4;have y5:=Ix (vz.b 2) 5;have y6:=Ix (vz.b 2) 6;have HZ:=((((((vz.set 2 0 rfl (Aa Ab s.a)).set 2 1 rfl (Aa Ab s.b)).set 2 2 rfl (Ad AC nC nC)).set 2 3 rfl (Aa Ac (rr.1.t:Int))).set 2 4 rfl (Aa Ab rr.1.x)).set 2 5 rfl (Aa Ab rr.1.y)).set 2 6 rfl (Ad AT TL.length TL.length);have hq:=HQW.out;have uu:Q<zh+1:=oHx HQO.out;have ho:=Jb (Jb (Jb (Jb (Jb (Jb (Jb (Hz HOC.out (Am _) H'.out) hq 0 (Aa Ab s.a)) hq 1 (Aa Ab s.b)) hq 2 (Ad AC nC nC)) hq 3 (Aa Ac (rr.1.t:Int))) hq 4 (Aa Ab rr.1.x)) hq 5 (Aa Ab rr.1.y)) hq 6 (Ad AT TL.length TL.length);have hO:=(((((((HO20.out.below H'.out).setLow uu 0 (Aa Ab s.a)).setLow uu 1 (Aa Ab s.b)).setLow uu 2 (Ad AC nC nC)).setLow uu 3 (Aa Ac (rr.1.t:Int))).setLow uu 4 (Aa Ab rr.1.x)).setLow uu 5 (Aa Ab rr.1.y)).setLow uu 6 (Ad AT TL.length TL.length);have hOlo:=vz.lo 4 _ _ _ rfl
     have bo:Xk w.heap.size (((((((w21.setCell ⟨Q,0,Ae⟩ (Aa Ab s.a)).setCell ⟨Q,1,Ae⟩ (Aa Ab s.b)).setCell ⟨Q,2,Ae⟩ (Ad AC nC nC)).setCell ⟨Q,3,Ae⟩ (Aa Ac (rr.1.t:Int))).setCell ⟨Q,4,Ae⟩ (Aa Ab rr.1.x)).setCell ⟨Q,5,Ae⟩ (Aa Ab rr.1.y)).setCell ⟨Q,6,Ae⟩ (Ad AT TL.length TL.length)) [Aa Ab s.a,Aa Ab s.b,Ad AC nC nC,Aa Ac (rr.1.t:Int),Aa Ab rr.1.x,Aa Ab rr.1.y,Ad AT TL.length TL.length] (s.to f mv):=by
      rw[MO.out];have ob:=DZ.out;subst ob;exact Bs7 E'.out ho HWW.out hO SP.out.2 Gv
     have dx:=Ah bo;have WV:=Ah HZ;have hQO:Q≠zh:=oHx HQO.out;have hOQ:zh≠Q:=hQO.symm;clear HZ ho hO hOlo bo hq uu vz;go_wp2_with fail;exact Ai (Hj rfl rfl (WV.out.range 2 rfl) Tryz.underlying33 rfl Gx) rfl ⟨WV.out.below,.inr ⟨_,_,rfl,rfl,dx.out⟩⟩
    ·have q5:(ck != 0)=true:=by simpa using BP
     have hR:RR=(3,Ae):=by rw[yz.out,Ha BP]
     clear BP;subst hR;obtain⟨z0,z1,z2,z3,z4,z5,z6⟩:=Kg (vz.b 2);have y0:=Ix (vz.b 2) 0;have y1:=Ix (vz.b 2) 1;have y2:=Ix (vz.b 2) 2;have y3:=Ix (vz.b 2) 3;have y4:=Ix (vz.b 2) 4;have y5:=Ix (vz.b 2) 5;have y6:=Ix (vz.b 2) 6;have HZ:=Ah vz.zeroed;clear vz;go_wp2_with fail;exact Ai (Hj rfl rfl (HZ.out.range 2 rfl) Tryz.underlying33 rfl Gx) rfl ⟨HZ.out.below,.inl ⟨rfl,rfl⟩⟩
def Vb (a b:Int):List Stk:=(Ds (Hh a b)).map λid=>⟨(Ie a b [] mv0).1.2.getD id cl0,[id]⟩
def tS (a b:Int) (k:Nat) (h:k<Hh a b):(Vb a b).take (k+1)=(Vb a b).take k++[⟨(Ie a b [] mv0).1.2.getD k cl0,[k]⟩]:=by
 have hl:k<(Vb a b).length:=by simpa[Vb]using h
 rw[Bc hl];simp[Vb]
def Ai2 {a b:Int} (hs:okS a b=true):Lo a b []:=⟨hs,Gy,Gy,Gy,.nil,Gy⟩
def oS:∀(n:Nat) (g:Nat->Cl),Jw ((Ds n).map λid=>(⟨g id,[id]⟩:Stk))=n
 |0,_=>rfl
 |n+1,g=>by
  rw[List.range_succ,Ez,Zw,oS n g];rfl
def Bt3 (s:St) (w:Aj) (e:Ending) (w':Aj):Prop:=∃cs,e= .returned (.tuple #[.agg cs.toArray,Aa Ab 0])/\Xk w.heap.size w' cs s/\Below w.heap.size w w'
def At0 (a b:Int) (w:Aj) (hs:okS a b=true) (h0:(Ie a b [] mv0).2=0) (hQ:Qf w) (hT:Tn w):
  Al Dp 22 #[.agg #[a,b]] w (Bt3 (Jt a b) w):=by
 have HEM:=Ah (λ(w':Aj)=>Ad8 a b w' hs);have pu:=Zz w (λw' hb=>Wd a b Ae [] 0 0 mv0 w' (Ai2 hs) rfl Rd.nil Gv He (hQ.below hb) (hT.below hb));obtain⟨-,bv,-,jj⟩:=Ny h0;have vg:=Lh hs;have y8:=Ah (λk h=>tS a b k h);have hFL:(Vb a b).length=Hh a b:=by simp[Vb]
 have hFT:Jw (Vb a b)=Hh a b:=oS _ _
 have hFQ:∀x∈Vb a b,x.c.q<=255:=λx hx=>by
  obtain⟨id,hid,rfl⟩:=Dr.1 hx;have h1:id<(Ie a b [] mv0).1.2.length:=by rw[bv];simpa using hid
  dsimp only;rw[Dt,Aw h1];exact vQ (jj _ (Ay h1))
 have ZV:Hid (Jt a b=⟨a,b,[],mv0,Kc [] (Vb a b)⟩):=Ah rfl;rw[ZV.out];obtain⟨FL,hFLe⟩:=ey (Vb a b);rw[hFLe]at hFL hFT hFQ y8⊢;obtain⟨cnt,ji⟩:=ey (Hh a b);rw[ji]at hFL hFT bv y8;have EW:cnt<=1024:=by rw[<-ji];exact vg.2.2
 obtain⟨⟨⟨ms,is⟩,er⟩,TY⟩:∃z,Ie a b [] mv0=z:=⟨_,rfl⟩;rw[TY]at pu h0 bv jj y8;dsimp only at pu h0 bv jj y8;subst h0;rw[bv]at pu;have yv:=Ah bv;have VZ:=Ah jj;have KV:=Ah hFL;have U':=Ah hFT;have HFQ:=Ah hFQ;have H:=((Bx.start w).new #[a,b] 25 rfl).new #[Aa Ab 0,Aa Ab 0,Ad Ae 0 0,Aa Ac 0,Aa Ab 0,Aa Ab 0,Ad Ae 0 0] 33 (N:=w.heap.size+1) Gy;clear hs hQ hT bv jj vg hFL hFT hFQ hFLe ji TY ZV;go_in;go_upto_region 1 with fail;obtain⟨N,ct⟩:=Tw w.heap.size;rw[<-ct.out]at H⊢;generalize N+1=Q at H⊢;generalize (w.alloc _).alloc _=W1 at H⊢;obtain⟨⟨a0,a1⟩,-⟩:=Hm (H.b 0);go_wp2_with fail;refine(HEM.out _).mono ?_;rintro ee w2 ⟨rfl,hb⟩;have H2:=H.call hb;clear a0 a1 hb H HEM;obtain⟨P,hP⟩:=ey w2.heap.size;have H3:=H2.new #[a,b,Ad Ae 0 0] 28 hP;clear H2;go_upto_region 4 with fail
 try rw[hP]
 generalize w2.alloc _=W3 at H3⊢;clear hP;obtain⟨⟨p0,p1,p2⟩,-⟩:=Hg (H3.b 2);obtain⟨S,an,HSO⟩:=Og λW'=>W'.cell? ⟨P,0,Ae⟩=Af (Aa Ab a)/\W'.cell? ⟨P,1,Ae⟩=Af (Aa Ab b)/\W'.cell? ⟨P,2,Ae⟩=Af (Ad Ae 0 0)
 have ag:Hid (∀W',Below W3.heap.size W3 W'->S W'):=Ah λW' h=>by
  subst an;exact⟨Gw h p0,Gw h p1,Gw h p2⟩
 clear an p0 p1 p2;refine Ao (S:=S) Gx (ag.out _ (Ag _ _).drew) (λhS=>?_);have hb:Below W3.heap.size W3 W3.drew:=(Ag _ _).drew;have H4:=H3.drew;generalize W3.drew=X0 at hb hS H4⊢;refine Ke 0 ?_;refine rdy 1 (λK hK=>?_);go_simp;refine(Yu _).mono ?_;rintro e X1 ⟨rfl,ad⟩;have H4:=H4.call ad;have hb:=Up hb ad;refine hK.o (ag.out _ hb) (λhS=>?_);clear hK K ad;unfold Mv.v mv0;dsimp only;have FC:=pu.out _ H4.below;unfold mv0 at FC;dsimp only at FC;refine rdy 2 (λK hK=>?_);go_simp;refine FC.mono ?_;rintro e X2 ⟨ad,⟨h0,-⟩|⟨-,G2,rfl,jz,MU⟩⟩
 ·exact absurd rfl h0
 have H5:=H4.join ad jz MU;have hb:=Up hb ad;refine hK.o (ag.out _ hb) (λhS=>?_);clear hK K ad FC jz MU H4 H3;refine Hk 3 4 5 6 ?_;refine Ke 7 ?_;refine An Gx ?_ _;clear hS HSO ag hb pu;obtain⟨GO,rm⟩:=ey X2.heap.size;have ub:=aT cnt Gv X2;have DA:=Ia.made X2 cnt Gv
 have HLO:Hid (∀x∈[(N,#[Aa Ab a,Aa Ab b],25),(Q,#[Aa Ab 0,Aa Ab 0,Ad Ae 0 0,Aa Ac 0,Aa Ab 0,Aa Ab 0,Ad Ae 0 0],33),(P,#[Aa Ab a,Aa Ab b,Ad Ae 0 0],28),(G2,(Nu is).toArray,90)],x.1<GO):=Ah (by
  intro x hx;obtain⟨i,hi,rfl⟩:=Be.1 hx;rw[<-rm];exact H5.lt i (Aw hi))
 have WT:Hid (w.heap.size<=GO):=Ah (oHx H5.below.size);have H6:=H5.other (.cells ((Ba cnt skZ).flatMap Jc).toArray 92);rw[rm]at ub DA;clear H5;go_upto_region 8 with fail
 try rw[rm]
 generalize X2.alloc _=W8 at H6 DA⊢;have fx:Hid (∃zl:List SkR,zl.length=0/\zl.map (·.1)=FL.take 0/\Ia GO W8 (Ad (Af ⟨GO,0,Ae⟩) cnt cnt) (zl++Ba (cnt-0) skZ)):=Ah ⟨[],rfl,rfl,DA⟩;have KX:Hid (Bx w [(N,#[Aa Ab a,Aa Ab b],25),(Q,#[Aa Ab 0,Aa Ab 0,Ad Ae 0 0,Aa Ac 0,Aa Ab 0,Aa Ab 0,Ad Ae 0 0],33),(P,#[Aa Ab a,Aa Ab b,Ad Ae 0 0],28),(G2,(Nu is).toArray,90)] W8/\GO<=W8.heap.size):=Ah ⟨H6,by have:=(DA.1.lt GO rfl).2;omega⟩;clear ub rm DA H6;go_wp2
 go_loopw [34] (λs34 wr=>∃k:Nat,k<=cnt/\s34= Aa Ab k/\Hid (∃zl:List SkR,zl.length=k/\zl.map (·.1)=FL.take k/\Ia GO wr (Ad (Af ⟨GO,0,Ae⟩) cnt cnt) (zl++Ba (cnt-k) skZ))/\Hid (Bx w [(N,#[Aa Ab a,Aa Ab b],25),(Q,#[Aa Ab 0,Aa Ab 0,Ad Ae 0 0,Aa Ac 0,Aa Ab 0,Aa Ab 0,Ad Ae 0 0],33),(P,#[Aa Ab a,Aa Ab b,Ad Ae 0 0],28),(G2,(Nu is).toArray,90)] wr/\GO<=wr.heap.size)) (λs34 _=>cnt-(intOf s34).toNat)
 case atStart=>exact⟨0,Gv,rfl,fx,KX⟩
 obtain⟨k,hk,rfl,HZ,HJ⟩:=hrel;clear fx KX;by_cases ac:k<cnt
 ·have q0:(k:Int)<(cnt:Int):=Gv;have bv:k<is.length:=oHx yv.out;obtain⟨b9,o9,e9,-,d0,d1,d2⟩:=Az9 (Ug (HJ.out.1.b 3) (Om is)) k bv;obtain⟨rfl,rfl⟩:G2=b9/\0=o9:=by simpa using e9
  rw[Bu]at d0 d1 d2;have ug:=y8.out k ac;rw[show is.getD k cl0=is[k]by rw[Dt,Aw bv];rfl]at ug;obtain⟨⟨x0,x1,x2⟩,hx⟩:=ey (is[k]);rw[hx]at d0 d1 d2 ug;dsimp only at d0 d1 d2;have HT2:=Ah ug;obtain⟨X,hX⟩:=ey wr.heap.size;have H:=HJ.out.1.new #[x0,x1,Aa Ac x2] 90 hX;have cg:=(Ag wr.heap.size wr).alloc (Am _) (.cells #[x0,x1,Aa Ac x2] 90);clear hx ug e9 bv;go_upto_region 11 with fail
  try rw[hX]
  generalize wr.alloc _=W9 at H cg⊢;clear d0 d1 d2 hX;obtain⟨⟨e0,e1,e2⟩,-⟩:=Hg (H.b 4);have NB:=H.lt 4 rfl;obtain⟨zl,dp,ap,bw⟩:=HZ.out;obtain⟨Y,hY⟩:=ey W9.heap.size;have gm:=cg.alloc cg.size (.cells #[(k:Int)] 3);have hYl:wr.heap.size<=Y:=hY▸cg.size
  have jp:Nj wr.heap.size (W9.alloc (.cells #[(k:Int)] 3)) (⟨⟨x0,x1,x2⟩,[k]⟩,(Af ⟨Y,0,Ae⟩,1)):=by
   refine⟨.inr ⟨Y,0,rfl⟩,Am _,by show 1<=maxLen;unfold maxLen;omega,rfl,.inr ⟨Y,#[Aa Ab (k:Int)],rfl,hYl,?_,?_,rfl⟩⟩
   ·rw[<-hY];exact Ca W9 _
   ·exact Am _
  obtain⟨df,dg,dl⟩:=Zk bw (i:=k) (by simp[dp];omega) gm jp HJ.out.2
  have sw:(zl++Ba (cnt-k) skZ).set k (⟨⟨x0,x1,x2⟩,[k]⟩,(Af ⟨Y,0,Ae⟩,1))=(zl++[(⟨⟨x0,x1,x2⟩,[k]⟩,(Af ⟨Y,0,Ae⟩,1))])++Ba (cnt-(k+1)) skZ:=by
   rw[Gh _ _ Gv,dp,Fo];rw[show cnt-k=(cnt-(k+1))+1 by omega,List.replicate_succ,Cg];simp
  rw[sw]at dl;dsimp only at dl;obtain⟨v0,g0⟩:=df 0 Gv;obtain⟨v1,g1⟩:=df 1 Gv;obtain⟨v2,g2⟩:=df 2 Gv;obtain⟨v3,g3⟩:=df 3 Gv;rw[Df]at g0;have z0:=dg (k*4);have z1:=dg (k*4+1);have z2:=dg (k*4+2);have z3:=dg (k*4+3);have bg:Below GO wr (W9.alloc (.cells #[(k:Int)] 3)):=gm.mono HJ.out.2;have QM:=(((bg.setCell (p:=⟨GO,k*4,Ae⟩) (Am _) (Aa Ab x0)).setCell (p:=⟨GO,k*4+1,Ae⟩) (Am _) (Aa Ab x1)).setCell (p:=⟨GO,k*4+2,Ae⟩) (Am _) (Aa Ac x2)).setCell (p:=⟨GO,k*4+3,Ae⟩) (Am _) (Ad (Af ⟨Y,0,Ae⟩) 1 1);have hB:=HJ.out.1.keepN HLO.out WT.out QM;have gg:=QM.size;have ED:=Ah (Cn dl (Cn hB (Bt HJ.out.2 gg)));have HZM:Hid ((zl++[((⟨⟨x0,x1,x2⟩,[k]⟩,(Af ⟨Y,0,Ae⟩,1)):SkR)]).length=k+1/\(zl++[((⟨⟨x0,x1,x2⟩,[k]⟩,(Af ⟨Y,0,Ae⟩,1)):SkR)]).map (·.1)=FL.take (k+1)):=Ah ⟨by rw[Bh,dp];rfl,by rw[Ez,ap,HT2.out];rfl⟩;clear df dg sw jp dp ap bw gm bg QM hB gg dl cg H HZ HJ NB hYl;go_wp2;exact⟨⟨k+1,Gv,by go_num,Ah ⟨_,HZM.out.1,HZM.out.2,ED.out.1⟩,Ah ED.out.2⟩,by simp[intOf];omega⟩
 ·obtain⟨W1,rfl⟩:=ez wr;obtain rfl:k=cnt:=Gv;have q0:¬(k:Int)<(k:Int):=Gv;obtain⟨zl,dp,ap,bw⟩:=HZ.out;have ht:FL.take k=FL:=Bg (oHx KV.out);rw[ht]at ap;rw[Fo,List.replicate_zero,Ff]at bw;have bo:=bw.stksN ap;have j9:=Zz W1 (λw' hb=>fU Ae (Af ⟨GO,0,Ae⟩) [] FL 0 k 0 k w' ⟨[],rfl,Rd.nil,λi h=>absurd h (Nat.not_lt_zero _)⟩ (bo.below hb) rfl KV.out.symm Gv Gv (by rw[Eu,U'.out];omega) (by rw[Eu];exact HFQ.out));have H:=HJ.out.1;obtain⟨⟨p0,p1,p2⟩,-⟩:=Hg (H.b 2);obtain⟨S,an,HSO⟩:=Og λW'=>W'.cell? ⟨P,0,Ae⟩=Af (Aa Ab a)/\W'.cell? ⟨P,1,Ae⟩=Af (Aa Ab b)/\W'.cell? ⟨P,2,Ae⟩=Af (Ad Ae 0 0)
  have ag:Hid (∀W',W'.heap[P]? =W1.heap[P]? ->S W'):=Ah λW' h=>by
   have hc:∀j v,W1.cell? ⟨P,j,Ae⟩=Af v->W'.cell? ⟨P,j,Ae⟩=Af v:=λj v hv=>by
    unfold World.cell? at hv⊢;rw[h];exact hv
   subst an;exact⟨hc _ _ p0,hc _ _ p1,hc _ _ p2⟩
  have LM:=H.lt 2 rfl;clear an p0 p1 p2 bo dp ap bw ht HZ HJ;go_upto_region 13 with fail;refine Ao (S:=S) Gx (ag.out _ rfl) (λhS=>?_);have hb:Below W1.heap.size W1 W1.drew:=(Ag _ _).drew;have H2:=H.drew;generalize W1.drew=X5 at hb hS H2⊢;refine Ql 0 2 ?_;refine rdy 1 (λK hK=>?_);go_simp;refine(Yu _).mono ?_;rintro e X6 ⟨rfl,ad⟩;have H3:=H2.call ad;have hb:=Up hb ad;refine hK.o (ag.out _ (hb.block P LM)) (λhS=>?_);clear hK K ad H2;unfold Mv.v mv0;dsimp only;refine rdy 3 (λK hK=>?_);go_simp;refine(j9.out _ hb).mono ?_;rintro e X7 ⟨AO,cO,zO,rfl,RD,VO,ad⟩;have XL:=H3.lt 1 rfl;have wz:=Ah H3.below.size;have H4:=H3.call ad;have hb:=Up hb ad;refine hK.o (ag.out _ (hb.block P LM)) (λhS=>?_);clear hK K ad H3 H;refine Ke 4 ?_;obtain⟨z0,z1,z2,z3,z4,z5,z6⟩:=Kg (H4.b 1);have y0:=Ix (H4.b 1) 0;have y1:=Ix (H4.b 1) 1;have y2:=Ix (H4.b 1) 2;have y3:=Ix (H4.b 1) 3;have y4:=Ix (H4.b 1) 4;have y5:=Ix (H4.b 1) 5;have y6:=Ix (H4.b 1) 6;have G7:P≠Q:=H4.ne 2 1 He rfl rfl;obtain⟨n9,hn9⟩:=ey ((Kc [] FL).length);rw[hn9]at RD⊢;have HZ:=((((((H4.set 1 0 rfl (Aa Ab a)).set 1 1 rfl (Aa Ab b)).set 1 2 rfl (Ad Ae 0 0)).set 1 3 rfl (Aa Ac 0)).set 1 4 rfl (Aa Ab 0)).set 1 5 rfl (Aa Ab 0)).set 1 6 rfl (Ad AO n9 n9);have hO:=((((((RD.setLow XL 0 (Aa Ab a)).setLow XL 1 (Aa Ab b)).setLow XL 2 (Ad Ae 0 0)).setLow XL 3 (Aa Ac 0)).setLow XL 4 (Aa Ab 0)).setLow XL 5 (Aa Ab 0)).setLow XL 6 (Ad AO n9 n9)
  have hsP:S (((((((X7.setCell ⟨Q,0,Ae⟩ (Aa Ab a)).setCell ⟨Q,1,Ae⟩ (Aa Ab b)).setCell ⟨Q,2,Ae⟩ (Ad Ae 0 0)).setCell ⟨Q,3,Ae⟩ (Aa Ac 0)).setCell ⟨Q,4,Ae⟩ (Aa Ab 0)).setCell ⟨Q,5,Ae⟩ (Aa Ab 0)).setCell ⟨Q,6,Ae⟩ (Ad AO n9 n9)):=by
   refine ag.out _ ?_;rw[Dq _ ⟨Q,6,Ae⟩ _ P G7,Dq _ ⟨Q,5,Ae⟩ _ P G7,Dq _ ⟨Q,4,Ae⟩ _ P G7,Dq _ ⟨Q,3,Ae⟩ _ P G7,Dq _ ⟨Q,2,Ae⟩ _ P G7,Dq _ ⟨Q,1,Ae⟩ _ P G7,Dq _ ⟨Q,0,Ae⟩ _ P G7];exact hb.block P LM
  have dx:Hid (Xk w.heap.size (((((((X7.setCell ⟨Q,0,Ae⟩ (Aa Ab a)).setCell ⟨Q,1,Ae⟩ (Aa Ab b)).setCell ⟨Q,2,Ae⟩ (Ad Ae 0 0)).setCell ⟨Q,3,Ae⟩ (Aa Ac 0)).setCell ⟨Q,4,Ae⟩ (Aa Ab 0)).setCell ⟨Q,5,Ae⟩ (Aa Ab 0)).setCell ⟨Q,6,Ae⟩ (Ad AO n9 n9)) [Aa Ab a,Aa Ab b,Ad Ae 0 0,Aa Ac 0,Aa Ab 0,Aa Ab 0,Ad AO n9 n9] ⟨a,b,[],mv0,Kc [] FL⟩):=Ah (by
   have de:=wz.out;subst hn9;exact Bs7 (cr:=[]) (rt:=mv0) (.inl ⟨rfl,rfl,rfl⟩) (O:=w.heap.size) (e:=192) (co:=0) ⟨rfl,.inl ⟨rfl,rfl⟩⟩ (Am _) hO VO Gv)
  have WV:=Ah HZ;have wi:=Ah hsP;clear HZ hO hsP RD VO hn9 H4 XL hb LM ag;refine rdy 5 (λK hK=>?_);go_simp;refine hK.o wi.out (λhS=>?_);clear hK K z0 z1 z2 z3 z4 z5 z6 y0 y1 y2 y3 y4 y5 y6;refine Ke 6 ?_;refine An Gx ?_ _;go_wp2_with fail;exact Ai (Hj rfl rfl (WV.out.range 1 rfl) Tryz.underlying33 rfl Gx) rfl ⟨_,rfl,dx.out,WV.out.below⟩
end Go.Proofs.YtlgkpdfieaadaaaGreatDoor
