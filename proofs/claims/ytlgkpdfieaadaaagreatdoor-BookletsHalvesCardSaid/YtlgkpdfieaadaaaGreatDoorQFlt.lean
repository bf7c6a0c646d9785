import Derived.Test.YtlgkpdfieaadaaaGreatDoorQOvi
import Derived.Test.YtlgkpdfieaadaaaGreatDoorQPim
import Derived.Test.YtlgkpdfieaadaaaGreatDoorQLkm
set_option linter.all false
open And renaming intro->Cm
open Go renaming Addr->Ci,Calls->Al,TypeId->Cj,Value->Ak,World->Aj,bodyPost_ret->Ai,cell_of_row->By,heap_alloc_new->Bz,wpAnyH_done->An,wpAnyH_ready->Ap,wp_region_held_drew->Ao
open Go.AllReadyH renaming cons->Aq,nil->Ar
open Go.IntKind renaming i64->Ab,u8->Ac
open Go.Lib renaming hid->Ah,wpList_append_run->As
open Go.Proofs.Tryz renaming prog->Do
open Go.RowKit.Below renaming heap_alloc->Eg,heap_setCell->Dp,refl->Ag
open Go.Value renaming int->Aa,slice->Ad,oneCell'->Dn,ownBlock->Dv
open List renaming append_assoc->Bj,append_nil->Fe,getD_eq_getElem?_getD->Ds,getElem?_eq_getElem->Aw,getElem?_map->Fq,getElem_cons_succ->Cd,getElem_cons_zero->Cc,getElem_mem->Ay,getElem_toArray->Ce,length_append->Bh,length_eq_zero_iff->Es,length_map->Bo,map_append->Ey,map_map->Fs,mem_append->Bl,mem_iff_getElem->Be,mem_map->Dq,nil_append->Et,pairwise_map->Ez,range->Dr,replicate->Ba,setIfInBounds_toArray->Ch,set_append_right->Gg,set_cons_succ->Cg,set_cons_zero->Cf,take_of_length_le->Bg,take_succ_eq_append_getElem->Bc
open Nat renaming add_zero->De,le_refl->Am,le_trans->Br,mul_one->Db,sub_self->Fk,zero_add->Bt
open Option renaming none->Ae,some->Af
set_option maxHeartbeats 32000000
set_option maxRecDepth 100000
namespace Go.Proofs.YtlgkpdfieaadaaaGreatDoor
open Go.RowKit Go.Sort
def Bd5 (l:List Stk) (w:Aj) (e:Ending) (w':Aj):Prop:=∃A c zl,e= .returned (Ad A l.length l.length)/\Hy w.heap.size w' (Ad A l.length c) zl/\zl.map (·.1)=l/\Below w.heap.size w w'
theorem Hy.cloned {O O2 n c2:Nat} {w w':Aj} {v:Ak} {A':Option Ci} {zl:List SkR} (h:Hy O w v zl) (hb:Below w.heap.size w w') (hO:O2<=O) (hr:w'.ownsRow O2 92 4 (Ad A' n c2) zl.length (zl.flatMap Jb)):Hy O2 w' (Ad A' n c2) zl:=
 ⟨hr,λx hx=>((h.below hb).2.1 x hx).base hO,h.2.2⟩
theorem Hy.stksN {O:Nat} {w:Aj} {A:Option Ci} {n c:Nat} {zl:List SkR} {l:List Stk} (h:Hy O w (Ad A n c) zl) (hl:zl.map (·.1)=l):Hz w A l:=hl▸h.stks
theorem qQ:∀(zl:List SkR),(∀x∈zl,x.1.c.q<=255)->∃D:List SkE,D.map (·.1)=zl
 |[],_=>⟨[],rfl⟩
 |x::r,h=>by
  obtain⟨D,hD⟩:=qQ r λy hy=>h y (by simp[hy]);exact⟨⟨x,h x Gx⟩::D,by rw[List.map_cons,hD]⟩
theorem qP (D:List SkE):D.flatMap skV=(D.map (·.1)).flatMap Jb:=by
 rw[List.flatMap_map];rfl
theorem lK {O m:Nat} {w w':Aj} {A:Option Ci} {c:Nat} {zl:List SkR} {D l':List SkE} (h:Hy O w (Ad A m c) zl) (hm:m=zl.length) (hD:D.map (·.1)=zl) (hp:l'.Perm D) (hs:l'.Pairwise λp q=>ltOf qO q p=false)
  (ho:w'.ownsRow O 92 4 (Ad A m c) m (l'.flatMap skV)) (hg:w.grownBy w' (Dv (Ad A m c))) (hn:((zl.map (·.1)).map (·.c)).Nodup):
  ∃z2:List SkR,z2.length=m/\z2.map (·.1)=Nq (zl.map (·.1))/\Hy O w' (Ad A m c) z2:=by
 have zw:(l'.map (·.1)).Perm zl:=hD▸hp.map (·.1);have hl:(l'.map (·.1)).length=m:=by rw[zw.length_eq,hm]
 refine⟨l'.map (·.1),hl,?_,h.perm zw (by rw[hl,<-qP];exact ho) hg⟩;refine lX (zw.map (·.1)) ?_ hn;rw[Ez,Ez];refine hs.imp λ{p q} hh=>?_;rw[Bj4,Rt]at hh;exact hh
theorem fK (A1 A2:Option Ci) (l1 l2:List Stk) (n1 n2 c1 c2:Nat) (w:Aj) (h1:Hz w A1 l1) (h2:Hz w A2 l2) (e1:n1=l1.length) (e2:n2=l2.length) (b1:n1<=10000) (b2:n2<=10000) (ht:Jy (l1++l2)<=100000) (hq:∀x∈l1++l2,x.c.q<=255):
  Al Do 64 #[Ad A1 n1 c1,Ad A2 n2 c2] w (Bd5 (Kd l1 l2) w):=by
 have vn:=Ah (λ(w':Aj) (hb:Below w.heap.size w w') (sb:Nat) (hs:sb<w'.heap.size) (q1:w'.cell? ⟨sb,0,Ae⟩=Af (Ad A1 n1 c1)) (q2:w'.cell? ⟨sb,0+1,Ae⟩=Af (Ad A2 n2 c2))=>gH sb 0 A1 A2 l1 l2 n1 n2 c1 c2 2 w' hs q1 q2 (h1.below hb) (h2.below hb) e1 e2 Gu Gu);have HLF:Hid (Kd l1 l2=Nq (Ld (l1++l2))):=Ah rfl;rw[HLF.out];clear HLF;have hLn:(l1++l2).length=n1+n2:=by rw[Bh,e1,e2]
 obtain⟨L,hL⟩:=ey (l1++l2);rw[hL]at vn ht hq hLn⊢;obtain⟨n,hn⟩:=ey L.length;have fd:n<=20000:=Gu;have HN:=Ah hn;have HT:=Ah ht;have HQ:=Ah hq;obtain⟨M,hM⟩:=ey w.heap.size;have HMw:=Ah hM;have qz:(Instr.makeMap 206 Ae).run Do w= .ok (.map (Af w.heap.size)) (w.alloc (.map #[] 0)):=by first|rfl|simp[Instr.makeMap]
 have OS:=Wg clK w;have lw:=(Ag w.heap.size w).alloc (Am _) (.map #[] 0);rw[hM]at qz OS;clear h1 h2 e1 e2 b1 b2 ht hq hL hLn;go_enter Tryz.func64,Tryz.ntmps64;go_upto_region 2 with fail
 try rw[hM]
 generalize w.alloc _=W0 at OS lw⊢;clear qz;have Y':=OS.lt;obtain⟨SB,VB⟩:=ey W0.heap.size;have cg:=(Ag W0.heap.size W0).alloc (Am _) (.cells #[Ad A1 n1 c1,Ad A2 n2 c2] 31);have aj:=lw.alloc lw.size (.cells #[Ad A1 n1 c1,Ad A2 n2 c2] 31);have hcat:=vn.out _ aj SB (by rw[<-VB];simp) (by rw[<-VB];exact(Hn (Bz W0 _)).1.1) (by rw[<-VB];exact(Hn (Bz W0 _)).1.2);have hmd2:=OS.below cg Y';have fi:=Ah hmd2;have sh:=Ah aj;clear vn cg aj hmd2 OS lw;go_wp2_with fail;refine hcat.mono ?_;rintro ee w3 ⟨A,c,rfl,br,bm⟩;have kg:=fi.out.below bm fi.out.lt;have hMO:=kg.lt
 have RZ:∃es c,w3.heap[M]? =Af (Obj.map es c):=by
  obtain⟨es,c,h,-⟩:=kg;exact⟨es,c,h⟩
 have de:Below w.heap.size w w3:=sh.out.trans (bm.mono sh.out.size);obtain⟨O,hO⟩:=ey w3.heap.size;rw[hO]at hMO;have XY:Hid (OvI O M w3 w3 (Ad Ae 0 0) []):=Ah ⟨Hy.nil _ _,Gx,kg,Off.refl _ _ _,Nat.le_of_eq hO.symm,hMO⟩;have gw:=Ah (λ(wr:Aj) (k:Off O M w3 wr)=>br.off (Nat.le_of_eq hO) k RZ);have un:=Ah de;have CK:Hid (w.heap.size<=O):=Ah (oHx de.size);rw[hn];clear hcat br bm kg hMO RZ de hO fi sh VB Y' hM;go_wp2
 go_loopw [18,6] (λNJ s6 wr=>∃(k m9 c9:Nat) (A9:Option Ci),k<=n/\NJ= Aa Ab k/\s6= Ad A9 m9 c9/\m9<=k/\Hid (∃zl:List SkR,zl.length=m9/\zl.map (·.1)=Ld (L.take k)/\OvI O M w3 wr (Ad A9 m9 c9) zl)) (λNJ _ _=>n-(intOf NJ).toNat)
 case atStart=>exact⟨0,0,0,Ae,Gu,rfl,rfl,Am _,Ah ⟨[],rfl,rfl,XY.out⟩⟩
 obtain⟨k,m9,c9,A9,hk,rfl,rfl,RY,HZ⟩:=hrel;clear XY;by_cases ad:k<n
 ·have bc:k<L.length:=oHx HN.out;have q0:(k:Int)<(n:Int):=Gu;obtain⟨zl,kc,WR,OZ⟩:=HZ.out;obtain⟨bb,o',A',c',QI,cj,⟨d0,d1,d2,d3⟩,dq,hle,ia,be⟩:=(gw.out _ OZ.off).get k bc;have bp:=Ay bc;have dy:=Br (Rj bp) HT.out;have ld:=uV L k bc;obtain⟨⟨⟨x0,x1,x2⟩,ids⟩,hx⟩:∃z,L[k]=z:=⟨_,rfl⟩;simp only[hx]at d0 d1 d2 d3 dy be dq hle ld;obtain⟨m,hm⟩:=ey ids.length;rw[hm]at d3 dy be dq hle;have fi:=Ah hm;have ur:=Ah ld;have dr:=Ah be;obtain⟨X,hX⟩:=ey wr.heap.size;have H:=(Bx.start wr).new #[x0,x1,Aa Ac x2,Ad A' m c'] 92 hX;have YL:=Ah OZ;have HZG:=Ah WR;have EO:=Ah kc;subst QI;clear ld be hx hm bp OZ WR kc HZ;go_upto_region 6 with fail
  try rw[hX]
  generalize wr.alloc _=W5 at H⊢;clear d0 d1 d2 d3;obtain⟨⟨e0,e1,e2,e3⟩,-⟩:=Jm (H.b 0);have AQ:=Ah (YL.out.below H.below);by_cases GZ:m=0
  ·subst GZ
   have hG:Ld (L.take (k+1))=Ld (L.take k):=by
    rw[ur.out,Hd];have:=Es.1 fi.out;subst this;rfl
   have HR:Hid (∃zl:List SkR,zl.length=m9/\zl.map (·.1)=Ld (L.take (k+1))/\OvI O M w3 W5 (Ad A9 m9 c9) zl):=Ah ⟨zl,EO.out,by rw[hG];exact HZG.out,AQ.out⟩;clear hG;go_wp2;exact⟨⟨k+1,m9,c9,A9,Gu,by go_num,rfl,Gu,HR⟩,by simp[intOf];omega⟩
  ·have YO:∃ab ao,A'=Af ⟨ab,ao,Ae⟩:=by
    rcases dq with⟨-,h0,-⟩|h
    ·exact absurd h0 GZ
    ·exact h
   obtain⟨ab,ao,rfl⟩:=YO;have q1:((m:Int)==0)=false:=by simpa using GZ
   have hG:Ld (L.take (k+1))=Nd ⟨⟨x0,x1,x2⟩,ids⟩ (Ld (L.take k)):=by
    rw[ur.out,Gz];intro hh;have:ids=[]:=by simpa using hh
    exact GZ (by rw[<-fi.out,this];rfl)
   rw[<-HZG.out]at hG;have HG:=Ah hG;have RX:=Wf xI Tryz.underlying206 (et:=3) (z:= Aa Ab 0) (λw=>Gw) AQ.out.mp ⟨x0,x1,x2⟩ true;rw[Ar1]at RX;have KB:=Ah GZ;clear hG dq GZ
   cases hp:Tk (⟨x0,x1,x2⟩:Cl) (zl.map (·.1)) 0 with
   |some i=>
    rw[hp]at RX;simp only[if_true,Option.map_some,Option.getD_some,Option.isSome_some]at RX;unfold clK at RX;dsimp only at RX;obtain⟨bv,RO⟩:=vC hp;have bv:i<zl.length:=by simpa using bv
    have RO:zl[i].1.c=⟨x0,x1,x2⟩:=by simpa using RO
    have fh:Nd ⟨⟨x0,x1,x2⟩,ids⟩ (zl.map (·.1))=(zl.map (·.1)).set i ⟨⟨x0,x1,x2⟩,zl[i].1.ls++ids⟩:=by
     obtain⟨_,h2⟩:=rW (x:=⟨⟨x0,x1,x2⟩,ids⟩) hp;rw[h2];simp
    have XE:=Ah fh;have HIC:=Ah RO;have uh:i<m9:=by rw[<-EO.out];exact bv
    have q2:(i:Int)<(m9:Int):=Gu;clear hp RO fh uh
    have hnez:0<zl[i].1.ls.length:=by
     have h1:=pO (L.take k);rw[<-HZG.out]at h1;exact List.length_pos_iff.2 (h1 _ (Dq.2 ⟨zl[i],Ay bv,rfl⟩))
    have htz:zl[i].1.ls.length+m<=1000000:=by
     have h1:zl[i].1.ls.length<=Jy (zl.map (·.1)):=Rj (Dq.2 ⟨zl[i],Ay bv,rfl⟩);rw[HZG.out,Yi]at h1;have h2:=Al2 L k;have h3:=HT.out;omega
    go_upto_region 9 with fail;obtain⟨S,an,HSO⟩:=Og λW'=>W'.cell? ⟨X,3,Ae⟩=Af (Ad (Af ⟨ab,ao,Ae⟩) m c')
    have ae:Hid (∀W',W'.heap[X]? =W5.drew.heap[X]? ->S W'):=Ah λW' h=>by
     subst an;show W'.cell? ⟨X,3,Ae⟩=_;unfold World.cell? at e3⊢;rw[h];exact e3
    have KY:X<W5.drew.heap.size:=H.lt 0 rfl;have XZ:=Ah (AQ.out.below (Ag W5.heap.size W5).drew);have HRY:=Ah (dr.out.below (H.below.trans ((Ag wr.heap.size W5).drew)));refine Ao (S:=S) Gw (ae.out _ rfl) (λhS=>?_);generalize W5.drew=Y at hS XZ HRY ae KY⊢;have di:=XZ.out.out.2.1 zl[i] (Ay bv);obtain⟨G,qg,hm9z,pj,N',-,-,-,g3⟩:=XZ.out.out.elem i bv;obtain⟨A2,k2,w8,ah,hx8,LI,FB,hA8⟩:=An4 di (XZ.out.cap zl[i] (Ay bv)) XZ.out.top hnez ⟨ab,ao,Ae⟩ m c' ids fi.out HRY.out htz;subst qg;obtain⟨vi,⟨u8,hu8⟩,hf8⟩:=XZ.out.poke bv ids A2 k2 hx8 LI FB hA8
    have hXx:∀g,zl[i].2.1.map (·.block)=Af g->g≠X:=λg hg=>by
     have:=((YL.out.out.2.1 zl[i] (Ay bv)).lt g (by unfold Kl;rw[hg];simp)).2.1;omega
    have uz:w8.heap[X]? =Y.heap[X]? :=FB.block X KY λe=>hXx X e.symm rfl
    have hGX:X≠G:=by
     have h1:=(YL.out.out.1.lt G rfl).2;omega
    have nj:=Ah (ae.out _ uz);rw[show(zl[i].1.ls++ids).length=zl[i].1.ls.length+m by rw[Bh,fi.out]]at vi;have rm:=Ah (ae.out (w8.setCell ⟨G,i*4+3,Ae⟩ (Ad A2 (zl[i].1.ls.length+m) k2)) ((Dp w8 ⟨G,i*4+3,Ae⟩ _ X hGX).trans uz));have bg:=Ah ah;have aw:Hid (∃z2:List SkR,z2.length=m9/\z2.map (·.1)=Ld (L.take (k+1))/\OvI O M w3 (w8.setCell ⟨G,i*4+3,Ae⟩ (Ad A2 (zl[i].1.ls.length+m) k2)) (Ad (Af ⟨G,0,Ae⟩) m9 c9) z2):=Ah ⟨_,by rw[List.length_set];exact EO.out,by rw[List.map_set,HG.out,XE.out,HIC.out],vi⟩;obtain⟨nz,VV⟩:=ey (zl[i].1.ls.length);obtain⟨Az,hAz⟩:=ey (zl[i].2.1);obtain⟨kz,LY⟩:=ey (zl[i].2.2);rw[VV]at aw rm;rw[VV,hAz,LY]at g3 bg;clear di hx8 LI FB hA8 vi hXx uz ah VV hAz LY ae HRY hnez htz pj N' hm9z XZ KY;refine Hh 0 1 2 3 ?_;refine Hh 4 5 7 8 ?_;refine rdy 6 (λK hK=>?_);go_simp;refine hK.o hS (λhS=>?_);clear hK K g3;refine rdy 9 (λK hK=>?_);refine Jw (by simp[Region.wanted]) (.tmp 40) (.tmp 42) 38 rfl _ _ Qs Qs _ _ bg.out ?_;refine hK.o nj.out (λhS=>?_);clear hK K;refine Qp 10 11 ?_;refine rdy 12 (λK hK=>?_);go_simp;refine hK.o rm.out (λhS=>?_);clear hK K hS;refine An Gw ?_ _;go_wp2;exact⟨⟨k+1,m9,c9,Af ⟨G,0,Ae⟩,Gu,by go_num,rfl,Gu,aw⟩,by simp[intOf];omega⟩
   |none=>
    rw[hp]at RX;simp only[if_true,Option.map_none,Option.getD_none,Option.isSome_none]at RX;unfold clK at RX;dsimp only at RX;have fh:=(Sq (x:=⟨⟨x0,x1,x2⟩,ids⟩) hp).1;have XE:=Ah fh;have HP:=Ah hp;have SD:=AQ.out.mp
    have BH:X≠M:=by
     have h1:=YL.out.low;have h2:=YL.out.top;omega
    clear hp fh;go_wp2_with (at_mapUpdate;refine Sl xI Tryz.underlying206 _ rfl _ _ _ rfl M (Mf (zl.map (·.1)) 0) ⟨x0,x1,x2⟩ (Aa Ab (m9:Int)) rfl rfl rfl SD ?_;intro w9 vd zg;have hX9:w9.heap[X]? =W5.heap[X]? :=zg.block X (H.lt 0 rfl) (by simpa using BH);clear e0 e1 e2 e3;obtain⟨⟨e0,e1,e2,e3⟩,-⟩:=Jm (hX9.trans (H.b 0)));have hsz5:=YL.out.top;have da:=H.below;have hXX:X<W5.heap.size:=H.lt 0 rfl;have hrd9:=dr.out.off (O:=wr.heap.size) (Am _) (((Off.refl wr.heap.size M wr).below da).put da.size zg) (by obtain⟨es,cl,h,-⟩:=YL.out.mp;exact⟨es,cl,h⟩);refine(Re ⟨x0,x1,x2⟩ (Af ⟨ab,ao,Ae⟩) ids m c' w9 fi.out.symm (.inr ⟨ab,ao,rfl⟩) hrd9 Gu).mono ?_;rintro ee ng ⟨A10,rfl,X_,mh,iw⟩;dsimp only;have pw:Hy O w9 (Ad A9 m9 c9) zl:=AQ.out.out.lowM λg h1 h2=>zg.block g h2 (by have:=AQ.out.low;simp;omega);have rz:O<=w9.heap.size:=Br AQ.out.top zg.size;have K0:Nl w9.heap.size ng (⟨⟨x0,x1,x2⟩,ids⟩,(A10,ids.length)):=⟨X_,Am _,by show ids.length<=maxLen;have:=fi.out;unfold maxLen;omega,mh⟩;have m8:Um ng (⟨⟨x0,x1,x2⟩,ids⟩,(A10,ids.length)):=Um.clip mh;obtain⟨A11,c11,A12,c12,WW,hv,ah,ho12,-,hg12,hO12,-⟩:=pw.app rz iw K0 (oHx EO.out);obtain⟨rfl,-,rfl⟩:A9=A11/\m9=zl.length/\c9=c11:=by simpa using hv
    have vi:=AQ.out.snoc HP.out (by rw[EO.out];exact vd) zg iw K0 m8 ho12 hg12;rw[EO.out]at vi ah;simp only[fi.out]at vi ah;have bg:=Ah ah;have aw:Hid (∃z2:List SkR,z2.length=m9+1/\z2.map (·.1)=Ld (L.take (k+1))/\OvI O M w3 WW (Ad A12 (m9+1) c12) z2):=Ah ⟨_,by rw[Bh,EO.out];rfl,by rw[Ey,HG.out,XE.out];rfl,vi⟩;rw[fi.out];clear hv ah ho12 hg12 hO12 vi K0 m8 pw X_ mh hrd9 vd zg hX9 e0 e1 e2 e3 iw;go_wp2_with (at_builtin;refine As _ rfl _ _ _ _ rfl _ _ rfl rfl _ _ bg.out ?_);go_wp2;exact⟨⟨k+1,m9+1,c12,A12,Gu,by go_num,rfl,Gu,aw⟩,by simp[intOf];omega⟩
 ·obtain⟨W1,rfl⟩:=ez wr;obtain rfl:k=n:=Gu;have q0:¬(k:Int)<(k:Int):=Gu;obtain⟨zl,kc,WR,OZ⟩:=HZ.out;have ht:L.take k=L:=Bg (oHx HN.out);rw[ht]at WR
  have hq:∀x∈zl,x.1.c.q<=255:=λx hx=>by
   have hm:x.1∈Ld L:=WR▸Dq.2 ⟨x,hx,rfl⟩;exact Uy L (λc=>c.q<=255) HQ.out _ hm
  obtain⟨D,hD⟩:=qQ zl hq;have aa:=OZ.out.1;rw[kc,<-hD,<-qP]at aa;have pd:=Ah (qT D W1 aa Gu);have ci:Below w.heap.size w W1:=OZ.off.back un.out CK.out (by rw[HMw.out];exact Am _);obtain⟨F,hF⟩:=ey (Nq (Ld L))
  have hFB:∀x∈F,x.ls.length<=100000:=λx hx=>by
   have h1:x∈Ld L:=(Jc _).mem_iff.1 (hF▸hx);have h2:=Rj h1;rw[Yi]at h2;exact Br h2 HT.out
  have HFB:=Ah hFB
  have aw:Hid (∀w4,(∃l':List SkE,l'.Perm D/\l'.Pairwise (λp q=>ltOf qO q p=false)/\w4.ownsRow O 92 4 (Ad A9 m9 c9) m9 (l'.flatMap skV)/\W1.grownBy w4 (Dv (Ad A9 m9 c9)))->∃z:List SkR,z.length=m9/\z.map (·.1)=F/\Hy O w4 (Ad A9 m9 c9) z/\Below w.heap.size w w4/\O<=w4.heap.size):=Ah (by
   rintro w4 ⟨l',hp,hs,ho,hg⟩;obtain⟨z2,ca,od,WP⟩:=lK OZ.out kc.symm hD hp hs ho hg (by rw[WR];exact Vi L);have hbs:=ci.size;exact⟨z2,ca,by rw[od,WR,hF],WP,ci.grown hg hbs (λg B4=>Br CK.out (OZ.out.1.lt g B4).1),Br OZ.top hg.size⟩)
  have HF:=Ah hF;clear kc WR OZ ht hq hD aa ci hF hFB gw un HZ zl;go_wp2_with fail;refine pd.out.mono ?_;rintro ee w4 ⟨rfl,ul⟩;have HZ:=Ah (aw.out w4 ul);clear ul aw pd;go_wp2
  go_loopw [61] (λNL wr=>∃j:Nat,j<=m9/\NL= Aa Ab j/\Hid (∃z:List SkR,z.length=m9/\z.map (·.1)=F/\Hy O wr (Ad A9 m9 c9) z/\Below w.heap.size w wr/\O<=wr.heap.size)) (λNL _=>m9-(intOf NL).toNat)
  case atStart=>exact⟨0,Gu,rfl,HZ⟩
  obtain⟨j,hj,rfl,mq⟩:=hrel;clear HZ;by_cases ad:j<m9
  ·have q0:(j:Int)<(m9:Int):=Gu;obtain⟨z,ap,ca,od,WP,WQ⟩:=mq.out;have lz:j<z.length:=Gu;obtain⟨G,rfl,-,pj,N',g0,g1,g2,g3⟩:=od.elem j lz;have hk:=od.2.1 z[j] (Ay lz);have hmF:z[j].1∈F:=ca▸Dq.2 ⟨z[j],Ay lz,rfl⟩;have hlb:=HFB.out _ hmF
   have ky:∀y:SkR,y.1=z[j].1->(z.set j y).map (·.1)=F:=λy hy=>by
    rw[List.map_set,hy,<-ca];have e:z[j].1=(z.map (·.1))[j]'(by simpa using lz):=by rw[List.getElem_map]
    rw[e,List.set_getElem_self]
   obtain⟨⟨⟨⟨x0,x1,x2⟩,ids⟩,A6,k6⟩,hx⟩:∃y,z[j]=y:=⟨_,rfl⟩;rw[hx]at g0 g1 g2 g3 hk hlb ky;obtain⟨P7,D4,hcm6,FP⟩:=hk;dsimp only at g0 g1 g2 g3 P7 D4 hcm6 FP hlb ky;obtain⟨m,hm⟩:=ey ids.length;rw[hm]at g3 P7 D4 FP hlb;have fi:=Ah hm;have AH:=Ah (Re ⟨x0,x1,x2⟩ A6 ids m k6 wr hm.symm P7 FP.rd Gu);have D_:=Ah ky;have P3:=Ah od;have YK:=Ah WP;have HZ5:=Ah WQ;have HJL:=Ah lz;have mo:=Ah ap;have P':w.heap.size<=G:=Br CK.out pj;have XN:=Ah P';clear ap ca od WP WQ lz ky P7 D4 hcm6 FP hmF hx hm mq pj N' P';go_wp2_with fail;refine AH.out.mono ?_;rintro ee w6 ⟨XD,rfl,qg,bo,bh⟩;dsimp only;have jj:Nl wr.heap.size w6 (⟨⟨x0,x1,x2⟩,ids⟩,(XD,ids.length)):=⟨qg,Am _,by show ids.length<=maxLen;have:=fi.out;unfold maxLen;omega,bo⟩;obtain⟨df,dg,dj⟩:=Zl P3.out (i:=j) HJL.out bh jj HZ5.out;have la:=D_.out (⟨⟨x0,x1,x2⟩,ids⟩,(XD,ids.length)) rfl;rw[fi.out]at dj la⊢;dsimp only at dj;obtain⟨v0,g0⟩:=df 0 Gu;obtain⟨v1,g1⟩:=df 1 Gu;obtain⟨v2,g2⟩:=df 2 Gu;obtain⟨v3,g3⟩:=df 3 Gu;rw[De]at g0;have z0:=dg (j*4);have z1:=dg (j*4+1);have z2:=dg (j*4+2);have z3:=dg (j*4+3);have ba:=YK.out.trans (bh.mono YK.out.size);have ki:=XN.out;have OK:Below w.heap.size w ((((w6.setCell ⟨G,j*4,Ae⟩ (Aa Ab x0)).setCell ⟨G,j*4+1,Ae⟩ (Aa Ab x1)).setCell ⟨G,j*4+2,Ae⟩ (Aa Ac x2)).setCell ⟨G,j*4+3,Ae⟩ (Ad XD m m)):=(((ba.setCell (p:=⟨G,j*4,Ae⟩) ki _).setCell (p:=⟨G,j*4+1,Ae⟩) ki _).setCell (p:=⟨G,j*4+2,Ae⟩) ki _).setCell (p:=⟨G,j*4+3,Ae⟩) ki _
   have ir:O<=((((w6.setCell ⟨G,j*4,Ae⟩ (Aa Ab x0)).setCell ⟨G,j*4+1,Ae⟩ (Aa Ab x1)).setCell ⟨G,j*4+2,Ae⟩ (Aa Ac x2)).setCell ⟨G,j*4+3,Ae⟩ (Ad XD m m)).heap.size:=by
    have h1:=HZ5.out;have h2:=bh.size;simp;omega
   have CO:Hid (∃z:List SkR,z.length=m9/\z.map (·.1)=F/\Hy O ((((w6.setCell ⟨G,j*4,Ae⟩ (Aa Ab x0)).setCell ⟨G,j*4+1,Ae⟩ (Aa Ab x1)).setCell ⟨G,j*4+2,Ae⟩ (Aa Ac x2)).setCell ⟨G,j*4+3,Ae⟩ (Ad XD m m)) (Ad (Af ⟨G,0,Ae⟩) m9 c9) z/\Below w.heap.size w ((((w6.setCell ⟨G,j*4,Ae⟩ (Aa Ab x0)).setCell ⟨G,j*4+1,Ae⟩ (Aa Ab x1)).setCell ⟨G,j*4+2,Ae⟩ (Aa Ac x2)).setCell ⟨G,j*4+3,Ae⟩ (Ad XD m m))/\O<=((((w6.setCell ⟨G,j*4,Ae⟩ (Aa Ab x0)).setCell ⟨G,j*4+1,Ae⟩ (Aa Ab x1)).setCell ⟨G,j*4+2,Ae⟩ (Aa Ac x2)).setCell ⟨G,j*4+3,Ae⟩ (Ad XD m m)).heap.size):=Ah ⟨_,by rw[List.length_set];exact mo.out,la,dj,OK,ir⟩;clear df dg dj la OK ir ba ki bh bo qg jj;go_wp2;exact⟨⟨j+1,Gu,by go_num,CO⟩,by simp[intOf];omega⟩
  ·obtain rfl:j=m9:=Gu;have q0:¬(j:Int)<(j:Int):=Gu;obtain⟨z,ap,ca,od,WP,WQ⟩:=mq.out;have aa:=od.1;rw[ap]at aa;obtain⟨A',c',hv,dq,-,-⟩:=Mi aa;obtain⟨rfl,rfl⟩:A9=A'/\c9=c':=by simpa using hv
   have FSz:=Ah (Ap3 A9 j c9 (z.flatMap Jb) wr dq (Rd.of_own aa) (gB z) Gu);have P3:=Ah od;have YK:=Ah WP;have mo:=Ah ap;have mq:=Ah ca;clear ap ca od WP WQ aa hv dq;go_wp2_with fail;refine FSz.out.mono ?_;rintro ee w7 ⟨v7,rfl,qo,dc⟩;obtain⟨A7,c7,rfl,-,hle7,hcm7⟩:=Mi qo;have q_:=Ah qo;clear qo;go_wp2_with fail;refine(jX A7 j c7 w7 hle7 hcm7).mono ?_;rintro ee w8 ⟨rfl,pk⟩;go_wp2;go_ret;have hFl:F.length=j:=by rw[<-mq.out,Bo,mo.out]
   rw[HF.out];have hwz:=YK.out.size;refine⟨A7,c7,z,by rw[hFl];rfl,?_,mq.out,(YK.out.trans (dc.mono YK.out.size)).trans (pk.mono (Br YK.out.size dc.size))⟩;have h7:=P3.out.cloned dc CK.out (by rw[mo.out];exact Np q_.out hwz);rw[hFl];exact h7.below pk
structure Hi (b:Nat) (w w':Aj):Prop where
 size:w.heap.size<=w'.heap.size
 blk:∀k,b<=k->k<w.heap.size->w'.heap[k]? =w.heap[k]?
theorem Hi.refl (b:Nat) (w:Aj):Hi b w w:=⟨Am _,λ_ _ _=>rfl⟩
theorem Hi.trans {b:Nat} {w w1 w2:Aj} (h:Hi b w w1) (h2:Hi b w1 w2):Hi b w w2:=
 ⟨Br h.size h2.size,λk hk hl=>(h2.blk k hk (Nat.lt_of_lt_of_le hl h.size)).trans (h.blk k hk hl)⟩
theorem Hi.of {b:Nat} {w w':Aj} (h:Below w.heap.size w w'):Hi b w w':=⟨h.size,λk _ hl=>h.block k hl⟩
theorem Hi.set {b g:Nat} (hg:g<b) (w:Aj) (j:Nat) (v:Ak):Hi b w (w.setCell ⟨g,j,Ae⟩ v):=
 ⟨Gx,λk hk _=>Dp w ⟨g,j,Ae⟩ v k (by show k≠g;omega)⟩
theorem Aw3 {b O sz n:Nat} {e:Cj} {w w':Aj} {v:Ak} {xs:List Ak} (h:w.ownsRow O e sz v n xs) (hO:b<=O) (hk:Hi b w w'):w'.ownsRow O e sz v n xs:=
 ⟨h.1,h.2.imp id λ⟨g,cap,cur,r1,r2,r3,r⟩=>⟨g,cap,cur,r1,r2,(hk.blk g (Br hO r2) (Array.getElem?_eq_some_iff.1 r3).1).trans r3,r⟩⟩
theorem Hy.hi {b O:Nat} {w w':Aj} {v:Ak} {l:List SkR} (h:Hy O w v l) (hO:b<=O) (hk:Hi b w w'):Hy O w' v l:=
 ⟨Aw3 h.1 hO hk,λx hx=>(h.2.1 x hx).same λg hg=>hk.blk g (Br hO ((h.2.1 x hx).lt g hg).1) ((h.2.1 x hx).lt g hg).2.1,h.2.2⟩
def Xo (b:Nat) (w:Aj) (cs:List Ak) (s:St):Prop:=∀w',Hi b w w'->By3 w' cs s
theorem Xo.st {b:Nat} {w:Aj} {cs:List Ak} {s:St} (h:Xo b w cs s):By3 w cs s:=h w (Hi.refl _ _)
theorem Xo.go {b:Nat} {w w':Aj} {cs:List Ak} {s:St} (h:Xo b w cs s) (hk:Hi b w w'):Xo b w' cs s:=λ_ h2=>h _ (hk.trans h2)
theorem Xo.base {b b':Nat} {w:Aj} {cs:List Ak} {s:St} (h:Xo b w cs s) (hb:b'<=b):Xo b' w cs s:=
 λ_ h2=>h _ ⟨h2.size,λk hk=>h2.blk k (Br hb hk)⟩
theorem Bq0 {b O O2 pc co cc c2:Nat} {w:Aj} {a1 a2:Int} {cr:List Cr} {rt:Mv} {l:List Stk} {e:Cj} {pA A:Option Ci} {zl:List SkR} (hA:AOk pA cr.length pc) (hp:w.ownsRow O e 3 (Ad pA cr.length co) cr.length (crs cr)) (hO:b<=O)
  (hs:Hy O2 w (Ad A l.length c2) zl) (hz:zl.map (·.1)=l) (OH:b<=O2):
  Xo b w [Aa Ab a1,Aa Ab a2,Ad pA cr.length pc,Aa Ac rt.t,Aa Ab rt.x,Aa Ab rt.y,Ad A l.length cc] ⟨a1,a2,cr,rt,l⟩:=
 λ_ hk=>⟨⟨pA,pc,A,cc,rfl,hA,Rd.of_own (Aw3 hp hO hk),(hs.hi OH hk).stksN hz⟩⟩
theorem Bv7 {k c:Int} (h:okL k c=true):(ofL k c).ok=true:=by
 obtain⟨h1,h2,h3,h4⟩:=Mu.1 h;unfold Mv.ok ofL
 split
 ·rw[Ry];dsimp only;omega
 ·split
  ·rw[Ry];dsimp only;omega
  ·split
   ·rw[Ry];dsimp only;omega
   ·rw[Ry];dsimp only;omega
theorem Zy (l1 l2:List Stk):Jy (l1++l2)=Jy l1+Jy l2:=by
 unfold Jy;rw[Ey,List.sum_append]
theorem Al1 {l1 l2:List Stk} (h:l1.Perm l2):Jy l1=Jy l2:=(h.map _).sum_nat
theorem Bb6 {l1 l2:List Stk} (h:l1.Sublist l2):Jy l1<=Jy l2:=by
 induction h with
 |slnil=>exact Am _
 |cons x _ ih=>simp[Jy]at ih⊢;omega
 |cons_cons x _ ih=>simp[Jy]at ih⊢;omega
theorem wJ (K C:Int) (s:Nat) (l:List Stk):(Hv K C s l).Sublist l:=List.filter_sublist
theorem Bb5 (l:List Stk):Jy (Mj l)=Jy l:=by
 unfold Jy Mj;rw[Fs]
 congr 1
 refine List.map_congr_left λx _=>?_;simp
theorem Bm6 (l:List Stk):(Mj l).length=l.length:=by simp[Mj]
theorem Bm7 {l:List Stk} {P:Cl->Prop} (h:∀x∈l,P x.c):∀x∈Mj l,P x.c:=λx hx=>by
 obtain⟨y,hy,rfl⟩:=Dq.1 hx;exact h y hy
theorem Av0 {m:Mv} {l mv:List Stk} (h:Rx m l=Af mv):(∀x∈mv,x.c.ok=true)/\Jy mv=Jy l/\mv.length=l.length:=by
 unfold Rx at h
 split at h
 ·rename_i ha;injection h with h;have hp:=Jc (l.map λx=>(⟨(Li m x.c).1,x.ls⟩:Stk));rw[h]at hp;refine⟨λx hx=>?_,?_,by rw[hp.length_eq,Bo]⟩
  ·obtain⟨y,hy,rfl⟩:=Dq.1 (hp.mem_iff.1 hx);have:=List.all_eq_true.1 ha y hy;exact pJ (by simpa using this)
  ·rw[Al1 hp];unfold Jy;rw[Fs];rfl
 ·cases h
theorem Ah0 (l h:List Stk):(Kd l h).length<=l.length+h.length:=by
 have e:Kd l h=Nq (Ld (l++h)):=rfl;rw[e,(Jc _).length_eq,<-Bh];exact Ae9 _
theorem Aw2 (l h:List Stk):∀x∈Kd l h,x.ls.length<=Jy l+Jy h:=λx hx=>by
 have e:Kd l h=Nq (Ld (l++h)):=rfl;rw[e]at hx;have h1:=Rj ((Jc _).mem_iff.1 hx);rw[Yi,Zy]at h1;exact h1
theorem Bm2 (l h:List Stk) (P:Cl->Prop) (hl:∀x∈l,P x.c) (hh:∀x∈h,P x.c):∀x∈Kd l h,P x.c:=λx hx=>by
 have e:Kd l h=Nq (Ld (l++h)):=rfl;rw[e]at hx;refine Uy (l++h) P (λy hy=>?_) x ((Jc _).mem_iff.1 hx);rcases Bl.1 hy with hy|hy
 ·exact hl y hy
 ·exact hh y hy
theorem uP {c:Cl} (h:c.ok=true):c.q<=255:=by
 have:=(Jt.1 h).2.2.2.2;omega
structure Nu (s:St) (f:Fd):Prop where
 gs:Gs s
 side:f.side<=1
 okl:okL f.k f.c=true
theorem Bg7 {s:St} {f:Fd} (h:Gs s) (ho:Qk f.k f.c f.side=true):Nu s f:=by
 unfold Qk at ho;simp only[Bool.and_eq_true,Lg]at ho;exact⟨h,Gu,ho.1⟩
section
variable {s:St} {f:Fd}
theorem Nu.sp (h:Nu s f) (j:Nat):(Hv f.k f.c j s.l).length<=1024/\Jy (Hv f.k f.c j s.l)<=1024/\(∀x∈Hv f.k f.c j s.l,x.c.ok=true)/\∀x∈Hv f.k f.c j s.l,x.ls.length<=1024:=by
 have hs:=wJ f.k f.c j s.l;exact⟨Br hs.length_le h.gs.len,Br (Bb6 hs) h.gs.tot,λx hx=>(h.gs.at x (hs.subset hx)).1,λx hx=>h.gs.ls x (hs.subset hx)⟩
theorem Nu.rv (h:Nu s f):(Mj (Hv f.k f.c f.side s.l)).length<=1024/\Jy (Mj (Hv f.k f.c f.side s.l))<=1024/\(∀x∈Mj (Hv f.k f.c f.side s.l),x.c.ok=true)/\∀x∈Mj (Hv f.k f.c f.side s.l),x.ls.length<=1024:=by
 obtain⟨h1,h2,h3,h4⟩:=h.sp f.side;refine⟨by rw[Bm6];exact h1,by rw[Bb5];exact h2,Bm7 (P:=λc=>c.ok=true) h3,λx hx=>?_⟩;obtain⟨y,hy,rfl⟩:=Dq.1 hx;have:=h4 y hy;simpa using this
theorem Nu.mvd (h:Nu s f) {mv:List Stk} (hm:s.mv f=Af mv):mv.length<=1024/\Jy mv<=1024/\(∀x∈mv,x.c.ok=true)/\∀x∈mv,x.ls.length<=1024:=by
 obtain⟨h1,h2,h3,h4⟩:=h.rv;have D9:Rx (ofL f.k f.c) (Mj (Hv f.k f.c f.side s.l))=Af mv:=hm;obtain⟨k1,k2,k3⟩:=Av0 D9;exact⟨Gu,Gu,k1,λx hx=>by have:=Rj hx;omega⟩
theorem Nu.up (_h:Nu s f) {l1 l2:List Stk} (a1:l1.length<=1024/\Jy l1<=1024/\(∀x∈l1,x.c.ok=true)/\∀x∈l1,x.ls.length<=1024) (a2:l2.length<=1024/\Jy l2<=1024/\(∀x∈l2,x.c.ok=true)/\∀x∈l2,x.ls.length<=1024):
  (Kd l1 l2).length<=2048/\(∀x∈Kd l1 l2,x.ls.length<=2048)/\∀x∈Kd l1 l2,x.c.q<=255:=by
 refine⟨by have:=Ah0 l1 l2;omega,λx hx=>by have:=Aw2 l1 l2 x hx;omega,λx hx=>?_⟩;exact Bm2 l1 l2 (λc=>c.q<=255) (λy hy=>uP (a1.2.2.1 y hy)) (λy hy=>uP (a2.2.2.1 y hy)) x hx
theorem Nu.mok (h:Nu s f):(ofL f.k f.c).ok=true:=Bv7 h.okl
theorem Nu.then (h:Nu s f):La s.root (ofL f.k f.c)=Vt s.root (ofL f.k f.c):=by
 unfold La;rw[h.gs.root,h.mok];rfl
theorem Nu.rtt (h:Nu s f):(s.rt f).1.t<=255:=by
 unfold St.rt
 split
 ·unfold Vt gJ
  split
  ·rename_i el;have h8:=uG el;dsimp only at h8⊢;omega
  ·decide
 ·have:=uG h.gs.root;show s.root.t<=255;omega
end
def stZ:List Ak:=[Aa Ab 0,Aa Ab 0,Ad Ae 0 0,Aa Ac 0,Aa Ab 0,Aa Ab 0,Ad Ae 0 0]
def Bo3 (o:Int×Option St) (w:Aj) (e:Ending) (w':Aj):Prop:=Below w.heap.size w w'/\
 ((o.2=Ae/\e= .returned (.tuple #[.agg stZ.toArray,Aa Ab o.1]))∨∃t cs,o.2=Af t/\e= .returned (.tuple #[.agg cs.toArray,Aa Ab o.1])/\Xo w.heap.size w' cs t)
theorem Bz6 {s:St} (h:Gs s) (f:Fd):s.do f=s.fold f:=by
 unfold St.do;rw[Gz (λhh=>hh h.chk)]
theorem Ku {w:Aj} {g:Nat} {a b c d e f h:Ak} {t:Cj} (hg:w.heap[g]? =Af (Obj.cells #[a,b,c,d,e,f,h] t (0,0))):
  w.cell? ⟨g,0,Ae⟩=Af a/\w.cell? ⟨g,1,Ae⟩=Af b/\w.cell? ⟨g,2,Ae⟩=Af c/\w.cell? ⟨g,3,Ae⟩=Af d/\w.cell? ⟨g,4,Ae⟩=Af e/\w.cell? ⟨g,5,Ae⟩=Af f/\w.cell? ⟨g,6,Ae⟩=Af h:=by
 refine⟨?_,?_,?_,?_,?_,?_,?_⟩<;>(rw[By _ _ _ _ _ (0,0) hg];rfl)
theorem zA {w:Aj} {A:Option Ci} {l:List (Nat×Nat)} {n:Nat} (h:Rd w A 2 n (Lx l)) (i:Nat) (hi:i<l.length):
  ∃b o,A=Af ⟨b,o,Ae⟩/\b<w.heap.size/\w.cell? ⟨b,o+i*2,Ae⟩=Af (Aa Ab (l[i].1:Int))/\w.cell? ⟨b,o+i*2+1,Ae⟩=Af (Aa Ac (l[i].2:Int)):=by
 have hl:=h.1;rw[wQ]at hl;obtain⟨b,o,e,hb,hc⟩:=h.2 Gu;have bi:∀f,f<2->(Lx l)[i*2+f]? =(qY l[i])[f]? :=λf hf=>Iv qY 2 (λ_=>rfl) _ i f hi hf;exact⟨b,o,e,hb,hc (i*2+0) _ ((bi 0 Gu).trans rfl),hc (i*2+1) _ ((bi 1 Gu).trans rfl)⟩
def bJ (s:St) (K C:Int):List Nat:=(Ia s.a s.b s.cr s.root).1.2.map (Ir K C)
def Am6 (l:List (Nat×Nat)) (ss:List Nat) (w:Aj) (e:Ending) (w':Aj):Prop:=
 ∃A cA B,e= .returned (.tuple #[Ad A l.length cA,Ad B ss.length ss.length,Aa Ab 0])/\Rd w' A 2 l.length (Lx l)/\Rd w' B 1 ss.length (If ss)/\Below w.heap.size w w'
def Aw5 (s:St) (K C:Int) (u:Nat×Nat):Bool:=decide (Ir K C (s.img u.1)≠Ir K C (s.img (nbI s.a s.b u.1 u.2).1.toNat))&&decide (Hm s.cr u.1 u.2=0)
theorem pV (s:St) (K C:Int):Lv s K C=(Kq s.a s.b).filter (Aw5 s K C):=rfl
theorem nI {α:Type} (p:α->Bool) (l:List α) (k:Nat) (h:k<l.length):(l.take (k+1)).filter p=if p l[k]then (l.take k).filter p++[l[k]]else (l.take k).filter p:=by
 rw[Bc h,List.filter_append];by_cases hs:p l[k]=true
 ·simp[hs]
 ·simp[hs]
theorem jD {s:St} (K C:Int) (i:Nat) (hi:i<(Ia s.a s.b s.cr s.root).1.2.length):(bJ s K C)[i]? =Af (Ir K C (s.img i)):=by
 unfold bJ St.img;rw[Fq,Ds,Aw hi];rfl
theorem Ak7 {l:List Nat} {n k:Nat} (h:l.length=n) (hk:k<n) (v:Nat) (hv:l[k]? =Af v):(l.take k++Ba (n-k) 0).set k v=l.take (k+1)++Ba (n-(k+1)) 0:=by
 have hl:(l.take k).length=k:=by rw[List.length_take];omega
 rw[Gg _ _ Gu,hl,Fk,show n-k=(n-(k+1))+1 by omega,List.replicate_succ,Cf];rw[List.take_add_one,hv];simp
def gO (a b:Int) (pA:Option Ci) (pn pc rt:Nat) (rx ry K C:Int) (sv:Ak) (N P G2 G3:Nat) (is:List Cl) (r:List Nat):List (Nat×Array Ak×Cj):=
 [(N,#[Aa Ab a,Aa Ab b,Ad pA pn pc,Aa Ac rt,Aa Ab rx,Aa Ab ry,sv],33),(P,#[Aa Ac K,Aa Ab C],48),(G2,(Nx is).toArray,90),(G3,(If r).toArray,3)]
theorem vA (s:St) (pA:Option Ci) (pc:Nat) (sv:Ak) (K C:Int) (w:Aj) (hs:Gs s) (fp:Rd w pA 3 s.cr.length (crs s.cr)) (hL:okL K C=true) (hQ:Qf w) (hT:Tn w) (I6:sv.oneCell'=true):
  Al Do 66 #[.agg #[Aa Ab s.a,Aa Ab s.b,Ad pA s.cr.length pc,Aa Ac s.root.t,Aa Ab s.root.x,Aa Ab s.root.y,sv],.agg #[Aa Ac K,C]] w (Am6 (Lv s K C) (bJ s K C) w):=by
 have FQ:=uG hs.root;have ni:=Ah (λ(w':Aj) (hb:Below w.heap.size w w')=>We s.a s.b pA s.cr s.cr.length pc s.root w' hs.pat rfl (fp.below hb) hs.pat.len Gu (hQ.below hb) (hT.below hb));have HUN:=Ah (λ(w':Aj) (hb:Below w.heap.size w w')=>Bc6 s.a s.b w' hs.pat.sheet ((hQ.below hb).qt));have GD:=Ah (λ(w':Aj) (hb:Below w.heap.size w w') (i e:Int) (he:0<=e)=>Ji s.a s.b i e w' hs.pat.sheet he ((hQ.below hb).qt));have HKD:=Ah (λ(w':Aj) (hb:Below w.heap.size w w') (i e:Nat) (hu:isU s.a s.b i e=true) (hi:i<1024) (he:e<3)=>yG s.a s.b pA s.cr s.cr.length pc i e i w' rfl (fp.below hb) hs.pat ((hQ.below hb).qt) (oO hu) Gu Gu);have HSD:=Ah (λ(w':Aj) (hb:Below w.heap.size w w') (c:Cl) (hc:c.ok=true)=>bT K C c w' hL hc (hQ.below hb));have EX:=hs.both;obtain⟨-,bv,-,jb⟩:=Ny EX;have QE:=Ah (λ(i:Nat) hi=>jD (s:=s) K C i hi);have HPE:=pV s K C;have HPU:=Ah (λ(u:Nat×Nat)=>show Aw5 s K C u=(decide (Ir K C (s.img u.1)≠Ir K C (s.img (nbI s.a s.b u.1 u.2).1.toNat))&&decide (Hm s.cr u.1 u.2=0))from rfl);have HUB:=Ah (λ(u:Nat×Nat) (h:u∈Kq s.a s.b)=>bP hs.pat.sheet h)
 have lv:=Ah (λ(u:Nat×Nat) (h:isU s.a s.b u.1 u.2=true)=>show 0<=(nbI s.a s.b u.1 u.2).1/\(nbI s.a s.b u.1 u.2).1.toNat<Hg s.a s.b/\(nbI s.a s.b u.1 u.2).2=0 by
  unfold isU at h;simp only[Bool.and_eq_true,Lg]at h;have h1:=fF hs.pat.sheet h.1;have h2:=(Lf hs.pat.sheet).1;exact⟨h1.1,Gu,h.1⟩)
 have XI:=Lf hs.pat.sheet;have AZ:=Ah (show bJ s K C=(Ia s.a s.b s.cr s.root).1.2.map (Ir K C)from rfl);rw[HPE];clear HPE;obtain⟨cnt,iz⟩:=ey (Hg s.a s.b);have HUM:=Ah (λ(u:Nat×Nat) (h:u∈Kq s.a s.b)=>(Nb h).2.1);unfold Kq at HUM;rw[iz]at bv lv XI;obtain⟨PU,hPU⟩:=ey (Aw5 s K C);rw[hPU]at HPU⊢;obtain⟨SS,QU⟩:=ey (bJ s K C);rw[QU]at QE AZ⊢;obtain⟨⟨⟨ms,is⟩,er⟩,RA⟩:∃z,Ia s.a s.b s.cr s.root=z:=⟨_,rfl⟩;rw[RA]at ni EX bv jb QE AZ;dsimp only at ni EX bv jb QE AZ;subst EX;rw[bv]at ni QE;obtain⟨a,b,cr,root,sl⟩:=s;obtain⟨rt,rx,ry⟩:=root;dsimp only at*;obtain⟨US,ZV⟩:=ey (Kq a b)
 have hUM2:∀u∈US,3*u.1+u.2<3*cnt:=λu hu=>by
  have:=HUM.out u (by unfold Kq at ZV;rw[ZV];exact hu);rw[iz]at this;exact this
 have HUM2:=Ah hUM2;rw[ZV]at HUN HUB⊢;obtain⟨pn,mc⟩:=ey cr.length;rw[mc]at ni HKD⊢;have H:=((Bx.start w).new #[a,b,Ad pA pn pc,Aa Ac rt,rx,ry,sv] 33 rfl).new #[Aa Ac K,C] 48 (N:=w.heap.size+1) Gx
 have UH:Hid (US.length<=3072):=Ah (by
  have h1:=Sb a b (3*Hg a b);rw[iz]at h1;unfold Kq at ZV;rw[iz,]at ZV;rw[<-ZV];omega)
 have wq:=Ah bv;have Z9:=Ah jb;have CB:=Ah XI;have HSV:=Ah I6;clear XI hs fp hQ hT FQ hUM2 HUM ZV mc bv jb iz hPU QU RA I6;go_enter Tryz.func66,Tryz.ntmps66;go_upto_region 1 with fail;obtain⟨N,hN⟩:=ez w.heap.size;rw[<-hN]at H⊢;have db:=Ah hN;clear hN;generalize N+1=P at H⊢;generalize (w.alloc _).alloc _=W1 at H⊢;obtain⟨a0,a1,a2,a3,a4,a5,a6⟩:=Ku (H.b 0);go_wp2_with fail;refine(ni.out _ H.below).mono ?_;rintro ee w2 ⟨hb,⟨h0,-⟩|⟨-,G2,rfl,ju,KQ⟩⟩
 ·exact absurd rfl h0
 have H2:=H.join hb ju KQ;clear a0 a1 a2 a3 a4 a5 a6 hb ju KQ H ni;obtain⟨kh,va,hc3⟩:=CB.out;have uf:=Zg cnt hc3 w2;obtain⟨G3,hG3⟩:=ey w2.heap.size;have H3:=H2.new (If (Ba cnt 0)).toArray 3 hG3;rw[hG3]at uf;clear H2 kh va hc3;go_upto_region 5 with fail
 try rw[hG3]
 generalize w2.alloc _=W4 at H3⊢;have TQ:Hid (Bx w (gO a b pA pn pc rt rx ry K C sv N P G2 G3 is (SS.take 0++Ba (cnt-0) 0)) W4):=Ah H3;have CS:Hid (SS.length=cnt):=Ah (by rw[AZ.out,Bo,wq.out]);have D_:Hid (∀(i:Nat) (h:i<is.length),SS[i]? =Af (Ir K C is[i])):=Ah λi h=>by rw[AZ.out,Fq,Aw h];rfl
 clear uf hG3 H3;have JM:cnt<=1024:=CB.out.2.2;have fd:US.length<=3072:=UH.out;go_wp2
 go_loopw [36] (λs36 wr=>∃k:Nat,k<=cnt/\s36= Aa Ab k/\Hid (Bx w (gO a b pA pn pc rt rx ry K C sv N P G2 G3 is (SS.take k++Ba (cnt-k) 0)) wr)) (λs36 _=>cnt-(intOf s36).toNat)
 case atStart=>exact⟨0,Gu,rfl,TQ⟩
 obtain⟨k,hk,rfl,HH⟩:=hrel;clear TQ;by_cases ad:k<cnt
 ·have q0:(k:Int)<(cnt:Int):=Gu;have bv:k<is.length:=oHx wq.out;obtain⟨b9,o9,e9,-,d0,d1,d2⟩:=Ax4 (Ug (HH.out.b 2) (Om is)) k bv;obtain⟨rfl,rfl⟩:G2=b9/\0=o9:=by simpa using e9
  rw[Bt]at d0 d1 d2;have el:=Z9.out is[k] (Ay bv);have wh:=D_.out k bv;obtain⟨⟨x0,x1,x2⟩,hx⟩:=ey (is[k]);rw[hx]at d0 d1 d2 el wh;dsimp only at d0 d1 d2;obtain⟨sd,wg⟩:=ey (Ir K C ⟨x0,x1,x2⟩);have CQ:=Ah (λ(w':Aj) (hb:Below w.heap.size w w')=>HSD.out w' hb ⟨x0,x1,x2⟩ el);rw[wg]at CQ wh;dsimp only at CQ;have VI:=Ak7 CS.out ad sd wh;have yq:=Ah VI;obtain⟨X,hX⟩:=ey wr.heap.size;have H:=HH.out.new #[x0,x1,Aa Ac x2] 90 hX;clear hx wg el wh VI;go_upto_region 8 with fail
  try rw[hX]
  generalize wr.alloc _=W5 at H⊢;clear d0 d1 d2 hX;obtain⟨⟨e0,e1,e2⟩,-⟩:=He (H.b 4);obtain⟨⟨b0,b1⟩,-⟩:=Hn (H.b 1);go_wp2_with fail;refine(CQ.out _ H.below).mono ?_;rintro ee w6 ⟨rfl,hb⟩;have H6:=H.call hb;clear e0 e1 e2 b0 b1 hb H CQ;have LP:=H6.b 3;have RI:w6.frozen? ⟨G3,k,Ae⟩=false:=by simp[World.frozen?,LP]
  have jr:∃u,w6.cell? ⟨G3,k,Ae⟩=Af u:=by
   refine⟨_,(By w6 G3 k _ _ (0,0) LP).trans (Array.getElem?_eq_getElem (i:=k) ?_)⟩;have:=CS.out;simp[If];omega
  obtain⟨u9,jr⟩:=jr;have H7:=H6.set 3 k rfl (Aa Ab sd);rw[xZ,yq.out]at H7;have HR:Hid (Bx w (gO a b pA pn pc rt rx ry K C sv N P G2 G3 is (SS.take (k+1)++Ba (cnt-(k+1)) 0)) (w6.setCell ⟨G3,k,Ae⟩ (Aa Ab (sd:Int)))):=Ah (H7.upto 4);clear LP H6 H7;go_wp2;exact⟨⟨k+1,Gu,by go_num,HR⟩,by simp[intOf];omega⟩
 ·obtain rfl:k=cnt:=Gu;obtain⟨cnt,rfl⟩:=ez k;have q0:¬(cnt:Int)<(cnt:Int):=Gu;obtain⟨WY,rfl⟩:=ez wr
  have QU:SS.take cnt++Ba (cnt-cnt) 0=SS:=by
   rw[Fk,List.replicate_zero,Fe,Bg (oHx CS.out)]
  have H:=HH.out;rw[QU]at H;clear QU HH;obtain⟨a0,a1,a2,a3,a4,a5,a6⟩:=Ku (H.b 0);go_wp2_with fail;refine(HUN.out _ H.below).mono ?_;rintro ee w5 ⟨AU,rfl,ag,hb⟩;have H5:=H.call hb;clear a0 a1 a2 a3 a4 a5 a6 hb H HUN;obtain⟨nu,pu⟩:=ey US.length;rw[pu]at ag⊢;obtain⟨O,hO⟩:=ey w5.heap.size;have HUR:=Ah (λ(wr:Aj) (hb:Below O w5 wr)=>show Rd wr AU 2 nu (Lx US)from ag.rd.below (by rw[hO];exact hb));have TQ:Hid (Bx w (gO a b pA pn pc rt rx ry K C sv N P G2 G3 is SS) w5/\O<=w5.heap.size/\Below O w5 w5/\((US.take 0).filter PU).length=0/\w5.ownsRow O 194 2 (Ad Ae 0 0) 0 (Lx ((US.take 0).filter PU))):=Ah ⟨H5,Gu,Ag _ _,rfl,⟨rfl,.inl ⟨rfl,rfl⟩⟩⟩;have IZ:=Ah pu;have hnub:nu<=3072:=Gu
  have HLO:Hid (∀x∈gO a b pA pn pc rt rx ry K C sv N P G2 G3 is SS,x.1<O):=Ah (by
   intro x hx;obtain⟨i,hi,rfl⟩:=Be.1 hx;rw[<-hO];exact H5.lt i (Aw hi))
  have UJ:Hid (w.heap.size<=O):=Ah (oHx H5.below.size);clear ag pu hO H5;go_wp2
  go_loopw [66,13] (λs66 NH wr=>∃(k2 m9 c9:Nat) (A9:Option Ci),k2<=nu/\s66= Aa Ab k2/\NH= Ad A9 m9 c9/\m9<=k2/\Hid (Bx w (gO a b pA pn pc rt rx ry K C sv N P G2 G3 is SS) wr/\O<=wr.heap.size/\Below O w5 wr/\((US.take k2).filter PU).length=m9/\wr.ownsRow O 194 2 (Ad A9 m9 c9) m9 (Lx ((US.take k2).filter PU)))) (λs66 _ _=>nu-(intOf s66).toNat)
  case atStart=>exact⟨0,0,0,Ae,Gu,rfl,rfl,Am _,TQ⟩
  obtain⟨k2,m9,c9,A9,DP,rfl,rfl,RY,HZ⟩:=hrel;clear TQ;by_cases ad:k2<nu
  ·have q0:(k2:Int)<(nu:Int):=Gu;have ST:k2<US.length:=oHx IZ.out;obtain⟨hB,hO,da,ig,aa⟩:=HZ.out;obtain⟨bu,ou,hAU,-,d0,d1⟩:=zA (HUR.out _ da) k2 ST;obtain⟨T9,zi,hiu⟩:=HUB.out US[k2] (Ay ST);have RN:=HUM2.out US[k2] (Ay ST);have jv:=lv.out US[k2] hiu;have hfs:=nI PU US k2 ST;have FN:=HPU.out US[k2];obtain⟨⟨i,e⟩,hu⟩:=ey (US[k2]);rw[hu]at d0 d1 T9 zi hiu RN jv hfs FN;dsimp only at d0 d1 T9 zi hiu RN jv FN;have RO:i<cnt:=Gu;obtain⟨U8,xy,hne⟩:=jv;have fd:=λ(w':Aj) (hb:Below w.heap.size w w')=>GD.out w' hb i e Gu;obtain⟨⟨nn,ne⟩,DT⟩:=ey (nbI a b (i:Int) (e:Int));rw[DT]at U8 xy hne fd FN;dsimp only at U8 xy hne FN;subst hne;unfold eQ at fd;dsimp only at fd;obtain⟨n,rfl⟩:∃n:Nat,nn=(n:Int):=⟨nn.toNat,Gu⟩;rw[Int.toNat_natCast]at xy FN;have HSI:=QE.out i RO;have ur:=QE.out n xy;obtain⟨s1,ft⟩:=ey (Ir K C (St.img ⟨a,b,cr,⟨rt,rx,ry⟩,sl⟩ i));obtain⟨s2,je⟩:=ey (Ir K C (St.img ⟨a,b,cr,⟨rt,rx,ry⟩,sl⟩ n));rw[ft]at HSI FN;rw[je]at ur FN;have jf:=Ah (λ(w':Aj) (hb:Below w.heap.size w w')=>HKD.out w' hb i e hiu zi T9);obtain⟨kk,jn⟩:=ey (Hm cr (i:Int) (e:Int));rw[jn]at jf FN;have m_:=Ah fd;have N9:=Ah hfs;have NV:=Ah FN;have CK:=Ah aa;have AK:=Ah ig;have AF:=Ah da;have jg:=Ah hO;have q1:(i:Int)<(cnt:Int):=Gu;have q2:(n:Int)<(cnt:Int):=Gu
   have MD:m9<=3072:=by
    have h1:=UH.out;omega
   obtain⟨X,hX⟩:=ey wr.heap.size;have H:=hB.new #[(i:Int),Aa Ac (e:Int)] 194 hX;subst hAU;clear DT U8 xy ft je jn fd hfs FN aa ig da hO hB hu ST RN hiu RO HZ;have cg:=(Ag wr.heap.size wr).alloc (Am _) (.cells #[(i:Int),Aa Ac (e:Int)] 194);go_upto_region 19 with fail
   try rw[hX]
   generalize wr.alloc _=W6 at H cg⊢;clear d0 d1;obtain⟨⟨x0,x1⟩,-⟩:=Hn (H.b 4);obtain⟨a0,a1,a2,a3,a4,a5,a6⟩:=Ku (H.b 0);go_wp2_with fail;refine(m_.out _ H.below).mono ?_;rintro ee w7 ⟨rfl,hb⟩;have H7:=H.call hb;have LG:=cg.trans (hb.mono cg.size);clear x0 x1 a0 a1 a2 a3 a4 a5 a6 hb H cg m_;obtain⟨⟨x0,x1⟩,-⟩:=Hn (H7.b 4);have MS:=Ug (H7.b 3) (show(If SS).length=cnt*1 by rw[Lt,CS.out,Db]);obtain⟨b9,o9,e9,-,y1⟩:=Rp MS i (by rw[CS.out];omega);obtain⟨rfl,rfl⟩:G3=b9/\0=o9:=by simpa using e9
   obtain⟨b8,o8,e8,-,y2⟩:=Rp MS n (by rw[CS.out];omega);obtain⟨rfl,rfl⟩:G3=b8/\0=o8:=by simpa using e8
   have ft:SS[i]'(by rw[CS.out];omega)=s1:=by
    have:=HSI;rw[Aw (by rw[CS.out];omega)]at this;simpa using this
   have je:SS[n]'(by rw[CS.out];omega)=s2:=by
    have:=ur;rw[Aw (by rw[CS.out];omega)]at this;simpa using this
   rw[ft,Bt]at y1;rw[je,Bt]at y2;clear MS e9 e8 ft je HSI ur;by_cases hse:s1=s2
   ·subst hse
    have hF:(US.take (k2+1)).filter PU=(US.take k2).filter PU:=by
     rw[N9.out,NV.out];simp
    have HR:Hid (∀q,Bx w (gO a b pA pn pc rt rx ry K C sv N P G2 G3 is SS) (w7.drewN q)/\O<=(w7.drewN q).heap.size/\Below O w5 (w7.drewN q)/\((US.take (k2+1)).filter PU).length=m9/\(w7.drewN q).ownsRow O 194 2 (Ad A9 m9 c9) m9 (Lx ((US.take (k2+1)).filter PU))):=Ah (λq=>by
     rw[hF];exact⟨(H7.upto 4).drewN q,Br jg.out LG.size,Ij (AF.out.trans (LG.mono jg.out)) q,AK.out,Hx CK.out (Am _) (Ij LG q)⟩)
    clear hF;go_upto_region 20 with fail
    go_quiet (fail)
    go_wp2;exact⟨⟨k2+1,m9,c9,A9,Gu,by go_num,rfl,Gu,Ah (HR.out _)⟩,by simp[intOf];omega⟩
   ·have hse2:((s1:Int)==(s2:Int))=false:=by rw[beq_eq_false_iff_ne];omega
    go_upto_region 20 with fail
    go_quiet (fail)
    have H8:=H7.drewN nq;have RB:=Ij LG nq;generalize w7.drewN nq=W8 at H8 RB⊢;clear H7 LG x0 x1 y1 y2;obtain⟨⟨x0,x1⟩,-⟩:=Hn (H8.b 4);obtain⟨a0,a1,a2,a3,a4,a5,a6⟩:=Ku (H8.b 0);go_wp2_with fail;refine(jf.out _ H8.below).mono ?_;rintro ee w9 ⟨rfl,hb⟩;have H9:=H8.call hb;have LH:=RB.trans (hb.mono RB.size);clear x0 x1 a0 a1 a2 a3 a4 a5 a6 hb H8 RB jf;obtain⟨⟨x0,x1⟩,-⟩:=Hn (H9.b 4);have rz:O<=w9.heap.size:=Br jg.out LH.size;have ex:=Hx CK.out (Am _) LH;have QZ:=AF.out.trans (LH.mono jg.out);have uu:Bx w (gO a b pA pn pc rt rx ry K C sv N P G2 G3 is SS) w9:=H9.upto 4;by_cases di:kk=0
    ·subst di
     have hF:(US.take (k2+1)).filter PU=(US.take k2).filter PU++[(i,e)]:=by
      rw[N9.out,NV.out];simp[hse]
     obtain⟨A',c',ng,ah,ho10,iw,hg10,QR,-⟩:=Yk (sl:=152) Tryz.underlying152 eP rfl Ha Ha w9 O m9 (Ad A9 m9 c9) _ ex rz Gu [Aa Ab (i:Int),Aa Ac (e:Int)] rfl (by simp[Dn]);have bg:=Ah ah
     have HR:Hid (Bx w (gO a b pA pn pc rt rx ry K C sv N P G2 G3 is SS) ng/\O<=ng.heap.size/\Below O w5 ng/\((US.take (k2+1)).filter PU).length=m9+1/\ng.ownsRow O 194 2 (Ad A' (m9+1) c') (m9+1) (Lx ((US.take (k2+1)).filter PU))):=Ah (by
      rw[hF,cQ];exact⟨uu.keepN HLO.out UJ.out iw,QR,QZ.trans iw,by rw[Bh,AK.out];rfl,ho10⟩)
     clear ah ho10 iw hg10 QR hF ex rz QZ uu H9 LH;go_wp2_with (at_builtin;refine As _ rfl _ _ _ _ rfl _ _ rfl rfl _ _ bg.out ?_);go_wp2;exact⟨⟨k2+1,m9+1,c',A',Gu,by go_num,rfl,Gu,HR⟩,by simp[intOf];omega⟩
    ·have hF:(US.take (k2+1)).filter PU=(US.take k2).filter PU:=by
      rw[N9.out,NV.out];simp[di]
     have DP:(kk==0)=false:=by simpa using di
     have HR:Hid (Bx w (gO a b pA pn pc rt rx ry K C sv N P G2 G3 is SS) w9/\O<=w9.heap.size/\Below O w5 w9/\((US.take (k2+1)).filter PU).length=m9/\w9.ownsRow O 194 2 (Ad A9 m9 c9) m9 (Lx ((US.take (k2+1)).filter PU))):=Ah (by
      rw[hF];exact⟨uu,rz,QZ,AK.out,ex⟩)
     clear hF ex rz QZ uu H9 LH;go_wp2;exact⟨⟨k2+1,m9,c9,A9,Gu,by go_num,rfl,Gu,HR⟩,by simp[intOf];omega⟩
  ·obtain rfl:k2=nu:=Gu;have q0:¬(k2:Int)<(k2:Int):=Gu;obtain⟨hB,hO,da,ig,aa⟩:=HZ.out;have ht:US.take k2=US:=Bg (oHx IZ.out);rw[ht]at ig aa;have MS:=Ug (hB.b 3) (show(If SS).length=cnt*1 by rw[Lt,CS.out,Db]);have aw:Hid (Am6 (US.filter PU) SS w (.returned (.tuple #[Ad A9 m9 c9,Ad (Af ⟨G3,0,Ae⟩) cnt cnt,Aa Ab 0])) wr):=Ah ⟨A9,c9,Af ⟨G3,0,Ae⟩,by rw[ig,CS.out],by rw[ig];exact Rd.of_own aa,by rw[CS.out];exact MS,hB.below⟩;clear hB hO da ig aa ht MS HZ;go_wp2_with fail;refine Ai (v:= .tuple #[Ad A9 m9 c9,Ad (Af ⟨G3,0,Ae⟩) cnt cnt,Aa Ab 0]) (by simp[results,Tryz.results66,go_sem]) rfl ?_;exact aw.out
theorem sS (id Ub Fb:Nat) (U:Option Ci) (nu cu:Nat) (up:List Bool) (over:Bool) (w:Aj) (hn:nu=up.length) (h:Rd w U 1 nu (Ib up)) (hid:id<nu) (hU:w.cell? ⟨Ub,0,Ae⟩=Af (Ad U nu cu)) (hF:w.cell? ⟨Fb,3,Ae⟩=Af (.bool over)):
  Al Do 74 #[(id:Int),.pointer (Af ⟨Ub,0,Ae⟩),.pointer (Af ⟨Fb,0,Ae⟩)] w (Gy (Aa Ac (if up.getD id false=over then 2 else 1)) w):=by
 obtain⟨b,o,rfl,cj,u0⟩:=yW h id Gu
 have hg:up.getD id false=up[id]'(by omega):=by
  rw[Ds,Aw Gu];rfl
 rw[hg];obtain⟨v,hv⟩:=ey (up[id]'(by omega));rw[hv]at u0⊢;obtain⟨R,hR⟩:∃z:Int,(if v=over then 2 else 1)=z:=⟨_,rfl⟩;rw[hR];have HR:=Ah hR;have q0:(id:Int)<(nu:Int):=Gu;obtain⟨S,an,HSO⟩:=Og λW'=>W'.cell? ⟨Ub,0,Ae⟩=Af (Ad (Af ⟨b,o,Ae⟩) nu cu)/\W'.cell? ⟨b,o+id,Ae⟩=Af (.bool v)/\W'.cell? ⟨Fb,3,Ae⟩=Af (.bool over);have qr:Hid (S w.drew):=Ah (by subst an;exact⟨hU,u0,hF⟩);have de:Hid (Below w.heap.size w w.drew):=Ah (Ag _ _).drew;clear hn h hid hU hF hg hv hR an u0 cj;go_enter Tryz.func74,Tryz.ntmps74;go_upto_region 1 with fail;refine Ao (S:=S) Gw qr.out (λhS=>?_);generalize w.drew=X0 at hS de⊢
 cases v<;>cases over
 ·refine Hh 0 1 2 3 ?_;refine Oe 4 5 6 ?_;refine An Gw ?_ _;have KU:R=2:=by rw[<-HR.out];rfl
  subst KU;go_wp2;go_ret;exact⟨rfl,de⟩
 ·refine Hh 0 1 2 3 ?_;refine Oe 4 5 6 ?_;refine An Gw ?_ _;have KU:R=1:=by rw[<-HR.out];rfl
  subst KU;go_wp2;go_ret;exact⟨rfl,de⟩
 ·refine Hh 0 1 2 3 ?_;refine Oe 4 5 6 ?_;refine An Gw ?_ _;have KU:R=1:=by rw[<-HR.out];rfl
  subst KU;go_wp2;go_ret;exact⟨rfl,de⟩
 ·refine Hh 0 1 2 3 ?_;refine Oe 4 5 6 ?_;refine An Gw ?_ _;have KU:R=2:=by rw[<-HR.out];rfl
  subst KU;go_wp2;go_ret;exact⟨rfl,de⟩
theorem Bx.grown {w wr w':Aj} {l:List (Nat×Array Ak×Cj)} {row:Option Nat} (h:Bx w l wr) (hg:wr.grownBy w' row) (hn:∀x∈l,row≠Af x.1) (gz:∀g,row=Af g->w.heap.size<=g):Bx w l w':=
 ⟨h.below.grown hg h.below.size gz,λi g cs t hi=>(hg.block g (h.lt i hi) (Ne.symm (hn _ (List.mem_of_getElem? hi)))).trans (h.blk i g cs t hi),h.lo,h.inj⟩
theorem Xz {w:Aj} {O e sz n g:Nat} {v:Ak} {xs:List Ak} {cs:Array Ak} {t:Cj} (h:w.ownsRow O e sz v n xs) (hg:w.heap[g]? =Af (Obj.cells cs t (0,0))) (hne:t≠e):v.ownBlock≠Af g:=Ne.symm (Wz hg hne h)
def csL (a b:Int) (pA:Option Ci) (pn pc N R T:Nat) (v:Ak):List (Nat×Array Ak×Cj):=
 [(N,#[Aa Ab a,Aa Ab b,Ad pA pn pc],28),(R,#[Aa Ab 0,Aa Ab 0,Ad Ae 0 0],28),(T,#[Aa Ab a,Aa Ab b,v],28)]
structure CsI (w:Aj) (L:Ak->List (Nat×Array Ak×Cj)) (wr:Aj) (m:Nat) (xs:List Ak) (A:Option Ci) (c:Nat):Prop where
 bx:Bx w (L (Ad A m c)) wr
 own:wr.ownsRow w.heap.size 192 3 (Ad A m c) m xs
theorem CsI.below {w wr w':Aj} {L:Ak->List (Nat×Array Ak×Cj)} {m c:Nat} {xs:List Ak} {A:Option Ci} (h:CsI w L wr m xs A c) (hb:Below wr.heap.size wr w'):CsI w L w' m xs A c:=⟨h.bx.call hb,Hx h.own (Am _) hb⟩
theorem Bo8 {w wr:Aj} {a b:Int} {pA:Option Ci} {pn pc N R T m c:Nat} {xs:List Ak} {A:Option Ci} (h:CsI w (csL a b pA pn pc N R T) wr m xs A c):∀x∈csL a b pA pn pc N R T (Ad A m c),Dv (Ad A m c)≠Af x.1:=by
 intro x hx;have h0:=h.bx.b 0;have h1:=h.bx.b 1;have h2:=h.bx.b 2;simp only[csL,List.mem_cons,List.not_mem_nil,or_false]at hx;rcases hx with rfl|rfl|rfl
 ·exact Xz h.own h0 Ha
 ·exact Xz h.own h1 Ha
 ·exact Xz h.own h2 Ha
theorem xN {w wr Y:Aj} {a b:Int} {pA:Option Ci} {pn pc N R T m c:Nat} {xs:List Ak} {A:Option Ci} (h:CsI w (csL a b pA pn pc N R T) wr m xs A c) (hb:Below wr.heap.size wr Y) (hm:m<=1000000) (i e k:Int):
  ∃A' c' w8,(Builtin.append_ #[26,26] 26 #[Ad A m c,Ad (Af ⟨Y.heap.size,0,Ae⟩) 1 1]).run Do (Y.alloc (.cells #[i,Aa Ac e,Aa Ac k] 192))= .ok (Ad A' (m+1) c') w8/\
   (w8.frozen? ⟨T,2,Ae⟩=false/\w8.cell? ⟨T,2,Ae⟩=Af (Ad A m c))/\(∀X,wr.heap.size<=X->X<Y.heap.size->w8.heap[X]? =Y.heap[X]? /\(w8.setCell ⟨T,2,Ae⟩ (Ad A' (m+1) c')).heap[X]? =Y.heap[X]?)/\
   CsI w (csL a b pA pn pc N R T) (w8.setCell ⟨T,2,Ae⟩ (Ad A' (m+1) c')) (m+1) (xs++[Aa Ab i,Aa Ac e,Aa Ac k]) A' c':=by
 have hY:=h.below hb;obtain⟨A',c',w8,ah,ho,-,hg,hM,-,-,xn⟩:=Yk (sl:=26) Tryz.underlying26 Ar8 rfl Ha Ha Y w.heap.size m (Ad A m c) xs hY.own hY.bx.below.size Gu [Aa Ab i,Aa Ac e,Aa Ac k] rfl (by simp[Dn]);have gz:∀g,Dv (Ad A m c)=Af g->w.heap.size<=g:=λg hg=>(hY.own.lt g hg).1;have H8:=hY.bx.grown hg (Bo8 hY) gz;obtain⟨⟨-,-,t2⟩,-,-,f2⟩:=He (H8.b 2);have hT8:=H8.b 2
 have hX:∀X,wr.heap.size<=X->X<Y.heap.size->w8.heap[X]? =Y.heap[X]? :=λX h1 h2=>hg.block X h2 λe=>by
  have:=(h.own.lt X e.symm).2;omega
 have hTr:=h.bx.lt 2 rfl
 exact⟨A',c',w8,ah,⟨f2,t2⟩,λX h1 h2=>⟨hX X h1 h2,(Dp w8 ⟨T,2,Ae⟩ _ X (by show X≠T;omega)).trans (hX X h1 h2)⟩,H8.set 2 2 rfl _,Il ho λg B4=>Dp w8 ⟨T,2,Ae⟩ _ g (by
  show g≠T;intro e;subst e;exact Xz ho hT8 Ha B4)⟩
theorem Bf8 {w wr:Aj} {a b:Int} {pA:Option Ci} {pn pc N R T c:Nat} {xs:List Ak} {A:Option Ci} (h:Bx w [(N,#[Aa Ab a,Aa Ab b,Ad pA pn pc],28),(R,#[Aa Ab 0,Aa Ab 0,Ad Ae 0 0],28),(T,#[Aa Ab 0,Aa Ab 0,Ad Ae 0 0],28)] wr)
  (ho:wr.ownsRow w.heap.size 192 3 (Ad A pn c) pn xs):CsI w (csL a b pA pn pc N R T) (((wr.setCell ⟨T,0,Ae⟩ (Aa Ab a)).setCell ⟨T,1,Ae⟩ (Aa Ab b)).setCell ⟨T,2,Ae⟩ (Ad A pn c)) pn xs A c:=by
 have hT:=h.b 2
 have hne:∀g,Dv (Ad A pn c)=Af g->g≠T:=λg hg e=>by
  subst e;exact Xz ho hT Ha hg
 refine⟨((h.set 2 0 rfl (Aa Ab a)).set 2 1 rfl (Aa Ab b)).set 2 2 rfl (Ad A pn c),Il ho λg hg=>?_⟩;rw[Dp _ ⟨T,2,Ae⟩ _ g (hne g hg),Dp _ ⟨T,1,Ae⟩ _ g (hne g hg),Dp _ ⟨T,0,Ae⟩ _ g (hne g hg)]
def Am2 (a b:Int) (l:List Cr) (w:Aj) (e:Ending) (w':Aj):Prop:=
 ∃A c,e= .returned (.agg #[a,b,Ad A l.length l.length])/\AOk A l.length l.length/\w'.ownsRow w.heap.size 192 3 (Ad A l.length c) l.length (crs l)/\Below w.heap.size w w'
theorem uL (l:List (Nat×Nat)) (kf:Nat->Int) (k:Nat) (h:k<l.length):Ma (l.take (k+1)) kf=Ma (l.take k) kf++[⟨l[k].1,l[k].2,kf l[k].1⟩]:=by
 unfold Ma;rw[Bc h,Ey];rfl
theorem xL (l1 l2:List Cr):crs (l1++l2)=crs l1++crs l2:=by simp[crs]
theorem mY (a b:Int) (pA:Option Ci) (cr:List Cr) (pn pc:Nat) (AL:Option Ci) (l:List (Nat×Nat)) (nl cl U F:Nat) (kf:Nat->Int) (w:Aj) (mc:pn=cr.length) (VX:AOk pA pn pc) (fp:Rd w pA 3 pn (crs cr)) (dw:pn<=300000)
  (jv:nl=l.length) (hl:Rd w AL 2 nl (Lx l)) (D6:nl<=3072) (bj:((cr++Ma l kf).map crU).Nodup)
  (jr:∀w',Below w.heap.size w w'->∀u∈l,Al Do 74 #[Aa Ab (u.1:Int),.pointer (Af ⟨U,0,Ae⟩),.pointer (Af ⟨F,0,Ae⟩)] w' (Gy (Aa Ac (kf u.1)) w')):
  Al Do 73 #[.agg #[a,b,Ad pA pn pc],Ad AL nl cl,.func (.func 74) #[] #[.pointer (Af ⟨U,0,Ae⟩),.pointer (Af ⟨F,0,Ae⟩)]] w (Am2 a b (Oc (cr++Ma l kf)) w):=by
 have XJ:=Ah (λ(w':Aj) (hb:Below w.heap.size w w')=>xK pA pn pc (crs cr) w' VX (fp.below hb) (xM cr) Gu);have HUR:=Ah (λ(w':Aj) (hb:Below w.heap.size w w')=>hl.below hb);have FSz:=Ah jr;have IX:=Ah bj;have lv:=Ah jv;have JA:=Ah mc;have H:=((Bx.start w).new #[a,b,Ad pA pn pc] 28 rfl).new #[Aa Ab 0,Aa Ab 0,Ad Ae 0 0] 28 (N:=w.heap.size+1) Gx;clear mc VX fp jv hl bj jr;go_enter Tryz.func73,Tryz.ntmps73;go_upto_region 1 with fail;obtain⟨N,hN⟩:=ez w.heap.size;rw[<-hN]at H⊢;have db:=Ah hN;clear hN;generalize N+1=R at H⊢;generalize (w.alloc _).alloc _=W1 at H⊢;obtain⟨⟨a0,a1,a2⟩,-⟩:=He (H.b 0);go_cut [7] (λs7 wx=>∃T A c,s7= .pointer (Af ⟨T,0,Ae⟩)/\Hid (CsI w (csL a b pA pn pc N R T) wx pn (crs cr) A c))
 case first=>
  obtain⟨S,an,HSO⟩:=Og λW'=>W'.cell? ⟨N,0,Ae⟩=Af (Aa Ab a)/\W'.cell? ⟨N,1,Ae⟩=Af (Aa Ab b)/\W'.cell? ⟨N,2,Ae⟩=Af (Ad pA pn pc)
  have ae:Hid (∀W',Below W1.heap.size W1 W'->S W'):=Ah λW' h=>by
   subst an;exact⟨Gv h a0,Gv h a1,Gv h a2⟩
  clear an a0 a1 a2;refine Ao (S:=S) Gw (ae.out _ (Ag _ _).drew) (λhS=>?_);have hb:Below W1.heap.size W1 W1.drew:=(Ag _ _).drew;have H:=H.drew;generalize W1.drew=X0 at hb hS H⊢;refine Hh 0 1 2 3 ?_;refine Ap (rs:=[4,6]) Gw Gx (Aq rfl (λK hK=>?_) (Aq rfl (λK hK=>?_) Ar));go_simp;refine(XJ.out _ H.below).mono ?_;rintro e X1 ⟨v,rfl,aa,ac⟩;obtain⟨A',c',rfl,-,-,-⟩:=Mi aa;have aa:=Np aa H.below.size;have H:=H.call ac;have hb:=hb.trans (ac.mono hb.size);refine hK.o (ae.out _ hb) (λhS=>?_);clear hK K ac;refine Kg 5 ?_;obtain⟨T,hT⟩:=ey X1.heap.size;have H:=H.new #[Aa Ab 0,Aa Ab 0,Ad Ae 0 0] 28 hT;have aa:=aa.alloc (.cells #[Aa Ab 0,Aa Ab 0,Ad Ae 0 0] 28);have QV:W1.heap.size<=T:=hT▸hb.size;have hb:=hb.alloc hb.size (.cells #[Aa Ab 0,Aa Ab 0,Ad Ae 0 0] 28);refine rdy 6 (λK hK=>?_);go_simp;refine hK.o (ae.out _ hb) (λhS=>?_);clear hK K hT;generalize X1.alloc _=XA at H hb hS aa⊢;rotate_left;obtain⟨T,hT⟩:=ey X0.heap.size;have H:=H.new #[Aa Ab 0,Aa Ab 0,Ad Ae 0 0] 28 hT;have QV:W1.heap.size<=T:=hT▸hb.size;have hb:=hb.alloc hb.size (.cells #[Aa Ab 0,Aa Ab 0,Ad Ae 0 0] 28);go_simp;refine hK.o (ae.out _ hb) (λhS=>?_);clear hK K hT;generalize X0.alloc _=X1 at H hb hS⊢;refine rdy 4 (λK hK=>?_);go_simp;refine(XJ.out _ H.below).mono ?_;rintro e X2 ⟨v,rfl,aa,ac⟩;obtain⟨A',c',rfl,-,-,-⟩:=Mi aa;have aa:=Np aa H.below.size;have H:=H.call ac;have hb:=hb.trans (ac.mono hb.size);refine hK.o (ae.out _ hb) (λhS=>?_);clear hK K ac;refine Kg 5 ?_;generalize X2=XA at H hb hS aa⊢
  all_goals
   have HC:=Ah (Bf8 (a:=a) (b:=b) H aa);obtain⟨⟨y0,y1,y2⟩,z0,z1,z2⟩:=He (H.b 2);have hb:=((hb.setCell (p:=⟨T,0,Ae⟩) QV (Aa Ab a)).setCell (p:=⟨T,1,Ae⟩) QV (Aa Ab b)).setCell (p:=⟨T,2,Ae⟩) QV (Ad A' pn c');clear H aa;refine rdy 7 (λK hK=>?_);go_simp;refine hK.o (ae.out _ hb) (λhS=>?_);clear hK K;refine An Gw ?_ _;go_wp2;go_meet;exact⟨T,A',c',rfl,HC⟩
 obtain⟨T,A0,c0,rfl,HC⟩:=hcut
 have fw:Hid (∃A c,CsI w (csL a b pA pn pc N R T) wc (pn+0) (crs (cr++Ma (l.take 0) kf)) A c):=Ah ⟨A0,c0,by
  have e:cr++Ma (l.take 0) kf=cr:=by simp[Ma]
  rw[e];exact HC.out⟩
 clear HC XJ a0 a1 a2 H;go_wp2
 go_loopw [18] (λNJ wr=>∃k:Nat,k<=nl/\NJ= Aa Ab k/\Hid (∃A c,CsI w (csL a b pA pn pc N R T) wr (pn+k) (crs (cr++Ma (l.take k) kf)) A c)) (λNJ _=>nl-(intOf NJ).toNat)
 case atStart=>exact⟨0,Gu,rfl,fw⟩
 obtain⟨k,hk,rfl,HZ⟩:=hrel;clear fw;by_cases ad:k<nl
 ·have q0:(k:Int)<(nl:Int):=Gu;have bc:k<l.length:=oHx lv.out;obtain⟨A9,c9,ta⟩:=HZ.out;obtain⟨bu,ou,YT,-,d0,d1⟩:=zA (HUR.out _ ta.bx.below) k bc;have ld:=uL l kf k bc;have lq:=λ(w':Aj) (hb:Below w.heap.size w w')=>FSz.out w' hb l[k] (Ay bc);obtain⟨⟨i,e⟩,hu⟩:=ey (l[k]);rw[hu]at d0 d1 ld lq;dsimp only at d0 d1 ld lq;obtain⟨k9,vd⟩:=ey (kf i);rw[vd]at ld lq;obtain⟨X,hX⟩:=ey wr.heap.size;have H:=(Bx.start wr).new #[(i:Int),Aa Ac (e:Int)] 194 hX;have mi:=Ah (λ(w':Aj) (hb:Below wr.heap.size wr w')=>lq w' (ta.bx.below.trans (hb.mono ta.bx.below.size)));have ur:=Ah ld;have XI:=Ah ta;subst YT;clear hu vd ld lq ta HZ bc;go_upto_region 5 with fail
  try rw[hX]
  generalize wr.alloc _=W5 at H⊢;clear d0 d1;obtain⟨⟨x0,x1⟩,-⟩:=Hn (H.b 0);obtain⟨S,an,HSO⟩:=Og λW'=>W'.cell? ⟨X,0,Ae⟩=Af (Aa Ab (i:Int))/\W'.cell? ⟨X,1,Ae⟩=Af (Aa Ac (e:Int))
  have ae:Hid (∀W',W'.heap[X]? =W5.drew.heap[X]? ->S W'):=Ah λW' h=>by
   have hc:∀j v,W5.cell? ⟨X,j,Ae⟩=Af v->W'.cell? ⟨X,j,Ae⟩=Af v:=λj v hv=>by
    unfold World.cell? at hv⊢;rw[h];exact hv
   subst an;exact⟨hc _ _ x0,hc _ _ x1⟩
  have dc:Below wr.heap.size wr W5.drew:=H.below.drew
  have jr:W5.drew.cell? ⟨T,2,Ae⟩=Af (Ad A9 (pn+k) c9):=by
   obtain⟨⟨-,-,t2⟩,-⟩:=He ((XI.out.below H.below).bx.b 2);exact t2
  have EV:X<W5.drew.heap.size:=H.lt 0 rfl;clear x0 x1 an;refine Ao (S:=S) Gw (ae.out _ rfl) (λhS=>?_);clear H;generalize W5.drew=Y at hS dc jr EV ae⊢;have dh:Hid (∀(Y2 W':Aj),Below Y.heap.size Y Y2->W'.heap[X]? =Y2.heap[X]? ->S W'):=Ah λY2 W' hb h=>ae.out _ (h.trans (hb.block X EV));have ep:=Ah dc;have NZ:Hid (wr.heap.size<=X):=Ah Gu;have UK:=Ah EV;clear dc ae EV hX;refine Hh 0 2 3 4 ?_;refine Hh 5 6 7 8 ?_;refine Ap (rs:=[1,9]) Gw Gx (Aq rfl (λK hK=>?_) (Aq rfl (λK hK=>?_) Ar))
  ·go_simp;refine hK.o hS (λhS=>?_);clear hK K jr;refine rdy 9 (λK hK=>?_);go_simp;refine(mi.out _ ep.out).mono ?_;rintro ee Y2 ⟨rfl,bh⟩;refine hK.o (dh.out Y2 _ bh rfl) (λhS=>?_);clear hK K;have kp:=ep.out.trans (bh.mono ep.out.size);obtain⟨JX,KL,w8,ah,⟨f8,k8⟩,uz,C'⟩:=xN XI.out kp Gu (i:Int) (e:Int) k9;have fx:X<Y2.heap.size:=by have:=bh.size;have:=UK.out;omega
   obtain⟨yz,ut⟩:=uz X NZ.out fx;have nj:=Ah (dh.out Y2 _ bh yz);have rm:=Ah (dh.out Y2 _ bh ut);have ly:=Ah (dh.out Y2 _ bh (Eg Y2 (.cells #[(i:Int),Aa Ac (e:Int),Aa Ac k9] 192) X fx));have bg:=Ah ah;have aw:Hid (∃A c,CsI w (csL a b pA pn pc N R T) (w8.setCell ⟨T,2,Ae⟩ (Ad JX (pn+k+1) KL)) (pn+(k+1)) (crs (cr++Ma (l.take (k+1)) kf)) A c):=Ah ⟨_,_,by rw[ur.out,<-Bj,xL];exact C'⟩;clear kp ah uz C' yz ut fx;refine Kg 10 ?_;refine rdy 11 (λK hK=>?_);go_simp;refine hK.o ly.out (λhS=>?_);clear hK K;refine rdy 12 (λK hK=>?_);refine Jw (by simp[Region.wanted]) (.tmp 23) (.tmp 33) 26 rfl _ _ Qs Qs _ _ bg.out ?_;refine hK.o nj.out (λhS=>?_);clear hK K;refine Kg 13 ?_;refine rdy 14 (λK hK=>?_);go_simp;refine hK.o rm.out (λhS=>?_);clear hK K hS;refine An Gw ?_ _;clear bg nj rm ly HSO dh f8 k8 ep mi;go_wp2;exact⟨⟨k+1,Gu,by go_num,aw⟩,by simp[intOf];omega⟩
  ·go_simp;refine(mi.out _ ep.out).mono ?_;rintro ee Y2 ⟨rfl,bh⟩;refine hK.o (dh.out Y2 _ bh rfl) (λhS=>?_);clear hK K;have kp:=ep.out.trans (bh.mono ep.out.size);obtain⟨JX,KL,w8,ah,⟨f8,k8⟩,uz,C'⟩:=xN XI.out kp Gu (i:Int) (e:Int) k9;have fx:X<Y2.heap.size:=by have:=bh.size;have:=UK.out;omega
   obtain⟨yz,ut⟩:=uz X NZ.out fx;have nj:=Ah (dh.out Y2 _ bh yz);have rm:=Ah (dh.out Y2 _ bh ut);have ly:=Ah (dh.out Y2 _ bh (Eg Y2 (.cells #[(i:Int),Aa Ac (e:Int),Aa Ac k9] 192) X fx));have bg:=Ah ah;have aw:Hid (∃A c,CsI w (csL a b pA pn pc N R T) (w8.setCell ⟨T,2,Ae⟩ (Ad JX (pn+k+1) KL)) (pn+(k+1)) (crs (cr++Ma (l.take (k+1)) kf)) A c):=Ah ⟨_,_,by rw[ur.out,<-Bj,xL];exact C'⟩;clear kp ah uz C' yz ut fx;refine Kg 10 ?_;have jr:=Gv bh jr;refine Ap (rs:=[1,11]) Gw Gx (Aq rfl (λK hK=>?_) (Aq rfl (λK hK=>?_) Ar));go_simp;refine hK.o hS (λhS=>?_);clear hK K jr;refine rdy 11 (λK hK=>?_);go_simp;refine hK.o ly.out (λhS=>?_);clear hK K;rotate_left;have jr:=Gv ((Ag Y2.heap.size Y2).alloc (Am _) (.cells #[(i:Int),Aa Ac (e:Int),Aa Ac k9] 192)) jr;go_simp;refine hK.o ly.out (λhS=>?_);clear hK K;refine rdy 1 (λK hK=>?_);go_simp;refine hK.o hS (λhS=>?_);clear hK K jr
   all_goals
    refine rdy 12 (λK hK=>?_);refine Jw (by simp[Region.wanted]) (.tmp 23) (.tmp 33) 26 rfl _ _ Qs Qs _ _ bg.out ?_;refine hK.o nj.out (λhS=>?_);clear hK K;refine Kg 13 ?_;refine rdy 14 (λK hK=>?_);go_simp;refine hK.o rm.out (λhS=>?_);clear hK K hS;refine An Gw ?_ _;clear bg nj rm ly HSO dh f8 k8 ep mi;go_wp2;exact⟨⟨k+1,Gu,by go_num,aw⟩,by simp[intOf];omega⟩
 ·obtain⟨W1,rfl⟩:=ez wr;obtain rfl:k=nl:=Gu;have q0:¬(k:Int)<(k:Int):=Gu;obtain⟨A9,c9,ta⟩:=HZ.out;have ht:l.take k=l:=Bg (oHx lv.out);rw[ht]at ta;obtain⟨m,hm⟩:=ey (pn+k);rw[hm]at ta;obtain⟨L,hL⟩:=ey (cr++Ma l kf);rw[hL]at ta IX;have f_:=Ah hL;have aa:=ta.own;rw[Bz5]at aa;have pd:=Ah (wB (L.map crT) W1 aa Gu);have VT:m<=1000000:=Gu
  have N9:Hid (∀w4,(∃l':List CrE,l'.Perm (L.map crT)/\l'.Pairwise (λp q=>ltOf kE q p=false)/\w4.ownsRow w.heap.size 192 3 (Ad A9 m c9) m (l'.flatMap crI)/\W1.grownBy w4 (Dv (Ad A9 m c9)))->CsI w (csL a b pA pn pc N R T) w4 m (crs (Oc L)) A9 c9):=Ah (by
   rintro w4 ⟨l',hp,hs,ho,hg⟩;have e:=Ba0 hp hs IX.out;rw[<-Bz4,e]at ho;exact⟨ta.bx.grown hg (Bo8 ta) (λg B4=>(ta.own.lt g B4).1),ho⟩)
  have hlen:(Oc L).length=m:=by
   have h1:=(Na L).length_eq;have h2:=ta.own.1;rw[Bf7]at h2;omega
  have FY:=Ah hlen;have hci':=Ah ta;obtain⟨⟨-,-,t2⟩,-⟩:=He (ta.bx.b 2);clear ta aa hlen ht hL hm HZ HUR FSz;go_wp2_with fail;refine pd.out.mono ?_;rintro ee w4 ⟨rfl,ul⟩;have TO:=Ah (N9.out w4 ul);clear t2 ul N9 pd;obtain⟨⟨-,-,t2⟩,-⟩:=He (TO.out.bx.b 2);obtain⟨A',c',hv,dq,-,-⟩:=Mi TO.out.own;obtain⟨rfl,rfl⟩:A9=A'/\c9=c':=by simpa using hv
  have CB:=Ah (xK A9 m c9 (crs (Oc L)) w4 dq (Rd.of_own TO.out.own) (xM _) VT);clear hv dq;go_wp2_with fail;refine CB.out.mono ?_;rintro ee w5 ⟨v5,rfl,tj,da⟩;obtain⟨A5,c5,rfl,Y_,hle5,hcm5⟩:=Mi tj;have AQ:=Ah tj;have HA5:=Ah Y_;clear tj Y_ t2;go_wp2_with fail;refine(Bs9 A5 m c5 w5 hle5 hcm5).mono ?_;rintro ee w6 ⟨rfl,ba⟩;have H6:=(TO.out.bx.call da).call ba;have vz:=Hx AQ.out (Am _) ba
  have hneT:∀g,Dv (Ad A5 m c5)=Af g->g≠T:=λg hg e=>by
   subst e;exact Xz vz (H6.b 2) Ha hg
  have SG:∀g,Dv (Ad A5 m c5)=Af g->g≠R:=λg hg e=>by
   subst e;exact Xz vz (H6.b 1) Ha hg
  obtain⟨⟨t0,t1,t2⟩,f0,f1,f2⟩:=He (H6.b 2);obtain⟨⟨r0,r1,r2⟩,g0,g1,g2⟩:=He (H6.b 1);have hTR:=H6.ne 1 2 Ha rfl rfl;have hRT:=hTR.symm;have H7:=(((H6.set 2 2 rfl (Ad A5 m m)).set 1 0 rfl (Aa Ab a)).set 1 1 rfl (Aa Ab b)).set 1 2 rfl (Ad A5 m m)
  have E9:((((w6.setCell ⟨T,2,Ae⟩ (Ad A5 m m)).setCell ⟨R,0,Ae⟩ (Aa Ab a)).setCell ⟨R,1,Ae⟩ (Aa Ab b)).setCell ⟨R,2,Ae⟩ (Ad A5 m m)).ownsRow w4.heap.size 192 3 (Ad A5 m c5) m (crs (Oc L)):=Il vz λg hg=>by
   rw[Dp _ ⟨R,2,Ae⟩ _ g (SG g hg),Dp _ ⟨R,1,Ae⟩ _ g (SG g hg),Dp _ ⟨R,0,Ae⟩ _ g (SG g hg),Dp _ ⟨T,2,Ae⟩ _ g (hneT g hg)]
  have HF:Hid (Am2 a b (Oc (cr++Ma l kf)) w (.returned (.agg #[a,b,Ad A5 m m])) ((((w6.setCell ⟨T,2,Ae⟩ (Ad A5 m m)).setCell ⟨R,0,Ae⟩ (Aa Ab a)).setCell ⟨R,1,Ae⟩ (Aa Ab b)).setCell ⟨R,2,Ae⟩ (Ad A5 m m))):=Ah (by
   rw[f_.out];exact⟨A5,c5,by rw[FY.out],by rw[FY.out];exact HA5.out.clip,by rw[FY.out];exact Np E9 TO.out.bx.below.size,H7.below⟩)
  have H7':=Ah H7;clear vz E9 H6 H7 hneT SG da ba;go_wp2_with fail;exact Ai (Mm rfl rfl (H7'.out.range 1 rfl) Tryz.underlying28 rfl Gw) rfl HF.out
theorem Iy {w:Aj} {g:Nat} {cs:Array Ak} {t:Cj} (h:w.heap[g]? =Af (Obj.cells cs t (0,0))) (j:Nat):w.frozen? ⟨g,j,Ae⟩=false:=by simp[World.frozen?,h]
def zeroed (W:Aj) (Q:Nat):Aj:=((((((W.setCell ⟨Q,0,Ae⟩ (Aa Ab 0)).setCell ⟨Q,1,Ae⟩ (Aa Ab 0)).setCell ⟨Q,2,Ae⟩ (Ad Ae 0 0)).setCell ⟨Q,3,Ae⟩ (Aa Ac 0)).setCell ⟨Q,4,Ae⟩ (Aa Ab 0)).setCell ⟨Q,5,Ae⟩ (Aa Ab 0)).setCell ⟨Q,6,Ae⟩ (Ad Ae 0 0)
theorem Bx.zeroed {w W:Aj} {N P Q:Nat} {sv fv:Array Ak} {tf:Cj} {r:List (Nat×Array Ak×Cj)} (H:Bx w ((N,sv,33)::(P,fv,tf)::(Q,stZ.toArray,33)::r) W):Bx w ((N,sv,33)::(P,fv,tf)::(Q,stZ.toArray,33)::r) (zeroed W Q):=
 ((((((H.set 2 0 rfl (Aa Ab 0)).set 2 1 rfl (Aa Ab 0)).set 2 2 rfl (Ad Ae 0 0)).set 2 3 rfl (Aa Ac 0)).set 2 4 rfl (Aa Ab 0)).set 2 5 rfl (Aa Ab 0)).set 2 6 rfl (Ad Ae 0 0)
def xR (s:St) (f:Fd):Int×Option St:=match s.mv f with
 |none=>(3,Ae)
 |some mv=>if(s.rt f).2≠0 then (3,Ae)else if(s.to f mv).chk=0 then (0,Af (s.to f mv))else (3,Ae)
def Aq8 (s:St) (f:Fd) (l:List (Nat×Nat)):Int×Option St:=if l.isEmpty then (7,Ae)else xR s f
theorem Aq9 (s:St) (f:Fd):s.fold f=if Qk f.k f.c f.side=false then (1,Ae)else Aq8 s f (Lv s f.k f.c):=xU s f
theorem Bt0 (s:St) (f:Fd) (pA:Option Ci) (pc:Nat) (A:Option Ci) (cc:Nat) (w:Aj) (hs:Gs s) (hA:AOk pA s.cr.length pc) (fp:Rd w pA 3 s.cr.length (crs s.cr)) (br:Hz w A s.l) (hQ:Qf w) (hT:Tn w):
  Al Do 23 #[.agg #[Aa Ab s.a,Aa Ab s.b,Ad pA s.cr.length pc,Aa Ac s.root.t,Aa Ab s.root.x,Aa Ab s.root.y,Ad A s.l.length cc],.agg #[Aa Ac f.k,Aa Ab f.c,Aa Ac f.side,.bool f.over]] w (Bo3 (s.do f) w):=by
 have FQ:=uG hs.root;have lq:=λ(w':Aj) (hb:Below w.heap.size w w')=>aL s.a s.b pA s.cr s.cr.length pc s.root A s.l s.l.length cc w' hs.pat rfl (fp.below hb) (oHx hs.pn) Gu rfl (br.below hb) (oHx hs.len) (λx hx=>by have:=hs.ls x hx;omega) hs.q (hQ.below hb) (hT.below hb);have e0:St.chk ⟨s.a,s.b,s.cr,s.root,s.l⟩=0:=hs.chk;rw[e0]at lq;have mi:=Ah lq;rw[Bz6 hs];obtain⟨RR,KU⟩:=ey (s.fold f);rw[KU];have jq:=Ah (KU.symm.trans (Aq9 s f));clear KU;obtain⟨ov,vi⟩:=ey f.over;rw[vi];have u_:=Ah vi;clear vi;have yu:=Ah (λho=>Bg7 (f:=f) hs ho);have CM:=Ah (λ(w':Aj) (hb:Below w.heap.size w w') (hL:okL f.k f.c=true)=>vA s pA pc (Ad A s.l.length cc) f.k f.c w' hs (fp.below hb) hL (hQ.below hb) (hT.below hb) rfl);have tz:=Ah (λ(w':Aj) (hb:Below w.heap.size w w') (hL:okL f.k f.c=true)=>Aj8 A s.l s.l.length cc f.k f.c w' rfl (br.below hb) (oHx hs.len) (λx hx=>by have:=hs.ls x hx;omega) hL (λx hx=>(hs.at x hx).1) (hQ.below hb));have UI:=Ah (λ(w':Aj) (hb:Below w.heap.size w w')=>Bq2 s.a s.b pA s.cr s.cr.length pc s.root w' hs.pat rfl (fp.below hb) (oHx hs.pn) Gu (hQ.below hb) (hT.below hb));have AV:=Ah (λ(w':Aj) (hb:Below w.heap.size w w')=>show Qf w'/\Tn w' from⟨hQ.below hb,hT.below hb⟩);have HPR:=Ah (λ(w':Aj) (hb:Below w.heap.size w w')=>fp.below hb);have HPA:=Ah hA;have FW:=Ah hs;have H:=(((Bx.start w).new #[Aa Ab s.a,Aa Ab s.b,Ad pA s.cr.length pc,Aa Ac s.root.t,Aa Ab s.root.x,Aa Ab s.root.y,Ad A s.l.length cc] 33 rfl).new #[Aa Ac f.k,Aa Ab f.c,Aa Ac f.side,.bool ov] 50 (N:=w.heap.size+1) Gx).new #[Aa Ab 0,Aa Ab 0,Ad Ae 0 0,Aa Ac 0,Aa Ab 0,Aa Ab 0,Ad Ae 0 0] 33 (N:=w.heap.size+1+1) Gx;have mc:=hs.pn;have qw:=hs.len;clear hA fp br hQ hT lq e0 hs;go_enter Tryz.func23,Tryz.ntmps23;go_upto_region 1 with fail
 obtain⟨N,hN⟩:=ez w.heap.size;rw[<-hN]at H⊢;have db:=Ah hN;clear hN;obtain⟨P,hP⟩:=ey (N+1);rw[hP]at H⊢;generalize P+1=Q at H⊢;clear hP;generalize ((w.alloc _).alloc _).alloc _=W1 at H⊢;obtain⟨a0,a1,a2,a3,a4,a5,a6⟩:=Ku (H.b 0);go_wp2_with fail;refine(mi.out _ H.below).mono ?_;rintro ee w2 ⟨rfl,hb⟩;have H2:=H.call hb;clear a0 a1 a2 a3 a4 a5 a6 hb H mi;obtain⟨⟨b0,b1,b2,b3⟩,-⟩:=Jm (H2.b 1);go_wp2_with fail;refine(gI f.k f.c f.side ov w2).mono ?_;rintro ee w3 ⟨rfl,hb⟩;have H3:=H2.call hb;clear b0 b1 b2 b3 hb H2
 cases el:Qk f.k f.c f.side with
 |false=>
  have hR:RR=(1,Ae):=by rw[jq.out,Hd el]
  rw[Qq];subst hR;obtain⟨z0,z1,z2,z3,z4,z5,z6⟩:=Ku (H3.b 2);have y0:=Iy (H3.b 2) 0;have y1:=Iy (H3.b 2) 1;have y2:=Iy (H3.b 2) 2;have y3:=Iy (H3.b 2) 3;have y4:=Iy (H3.b 2) 4;have y5:=Iy (H3.b 2) 5;have y6:=Iy (H3.b 2) 6;have HZ:=Ah H3.zeroed;clear H3;go_wp2_with fail;exact Ai (Hj rfl rfl (HZ.out.range 2 rfl) Tryz.underlying33 rfl Gw) rfl ⟨HZ.out.below,.inl ⟨rfl,rfl⟩⟩
 |true=>
  have jm:=yu.out el;have hR2:RR=Aq8 s f (Lv s f.k f.c):=by rw[jq.out,Gz (by rw[el];decide)]
  have fa:=Ah hR2;have EG:=Ah jm;have JO:=(Mu.1 jm.okl).1;have OT:=pK jm.okl;rw[Ls];clear el hR2 jq yu jm;obtain⟨a0,a1,a2,a3,a4,a5,a6⟩:=Ku (H3.b 0);obtain⟨⟨b0,b1,b2,b3⟩,-⟩:=Jm (H3.b 1);go_wp2_with fail;refine(CM.out _ H3.below EG.out.okl).mono ?_;rintro ee w4 ⟨AP,cP,B,rfl,hrP,MS,hb⟩;have H4:=H3.call hb;clear a0 a1 a2 a3 a4 a5 a6 b0 b1 b2 b3 hb H3 CM;obtain⟨PL,hPL⟩:=ey (Lv s f.k f.c);rw[hPL]at hrP fa⊢;obtain⟨np,ob⟩:=ey PL.length;rw[ob]at hrP⊢;obtain⟨SS,QU⟩:=ey (bJ s f.k f.c);rw[QU]at MS⊢;obtain⟨ns,hns⟩:=ey SS.length;rw[hns]at MS⊢;have lm:=Ah hPL;have NU:=Ah ob;have wz:=Ah QU;have o_:=Ah hns;have x_:=Ah (λ(w':Aj) (hb:Below w4.heap.size w4 w')=>hrP.below hb);have HRS:=Ah (λ(w':Aj) (hb:Below w4.heap.size w4 w')=>MS.below hb);clear hPL ob QU hns hrP MS;by_cases lg:np=0
  ·have hR:RR=(7,Ae):=by
    rw[fa.out];have:=Es.1 (NU.out.trans lg);rw[this];rfl
   subst lg;subst hR;obtain⟨z0,z1,z2,z3,z4,z5,z6⟩:=Ku (H4.b 2);have y0:=Iy (H4.b 2) 0;have y1:=Iy (H4.b 2) 1;have y2:=Iy (H4.b 2) 2;have y3:=Iy (H4.b 2) 3;have y4:=Iy (H4.b 2) 4;have y5:=Iy (H4.b 2) 5;have y6:=Iy (H4.b 2) 6;have HZ:=Ah H4.zeroed;clear H4;go_wp2_with fail;exact Ai (Hj rfl rfl (HZ.out.range 2 rfl) Tryz.underlying33 rfl Gw) rfl ⟨HZ.out.below,.inl ⟨rfl,rfl⟩⟩
  ·have q0:((np:Int)==0)=false:=by rw[beq_eq_false_iff_ne];omega
   have hR3:RR=xR s f:=by
    rw[fa.out];unfold Aq8;rw[Gz];intro h;have:PL=[]:=by simpa using h
    exact lg (by rw[<-NU.out,this];rfl)
   have qc:=Ah hR3;have O6:=Ah lg;clear hR3 fa lg;have pr:=Xw f.k f.c w4 Gu;rw[OT]at pr;obtain⟨m,hm⟩:=ey (ofL f.k f.c);rw[hm]at pr;unfold mvR Mv.v at pr;dsimp only at pr;have HM:=Ah hm;have CH:=Ah pr;clear pr OT hm;obtain⟨⟨b0,b1,b2,b3⟩,-⟩:=Jm (H4.b 1);go_wp2_with fail;refine CH.out.mono ?_;rintro ee w5 ⟨rfl,hb⟩;have H5:=H4.call hb;have i8:=hb;clear b0 b1 b2 b3 hb H4 CH;obtain⟨MB,hMB⟩:=ey w5.heap.size;have H6:=H5.new #[Aa Ac (m.t:Int),Aa Ab m.x,Aa Ab m.y] 30 hMB;have QY:=i8.alloc i8.size (.cells #[Aa Ac (m.t:Int),Aa Ab m.x,Aa Ab m.y] 30);clear H5 i8;go_upto_region 13 with fail
   try rw[hMB]
   generalize w5.alloc _=W6 at H6 QY⊢;clear hMB;obtain⟨a0,a1,a2,a3,a4,a5,a6⟩:=Ku (H6.b 0);obtain⟨⟨b0,b1,b2,b3⟩,-⟩:=Jm (H6.b 1);go_wp2_with fail;refine(tz.out _ H6.below EG.out.okl).mono ?_;rintro ee w7 ⟨A0,A1,rfl,uk,ft,hb⟩;have H7:=H6.call hb;have i9:=QY.trans (hb.mono QY.size);clear a0 a1 a2 a3 a4 a5 a6 b0 b1 b2 b3 hb H6 tz QY;obtain⟨⟨b0,b1,b2,b3⟩,-⟩:=Jm (H7.b 1);have YC:=Ah (Cm uk ft);have wg:=EG.out.side;clear uk ft;go_upto_if 69 with fail;go_cut [16,17]from 67 to 71 (λs16 s17 wx=>∃AS AW,s16= Ad AS (Hv f.k f.c (1-f.side) s.l).length (Hv f.k f.c (1-f.side) s.l).length/\s17= Ad AW (Hv f.k f.c f.side s.l).length (Hv f.k f.c f.side s.l).length/\Hid (Hz w7 AS (Hv f.k f.c (1-f.side) s.l)/\Hz w7 AW (Hv f.k f.c f.side s.l))/\w7=wx)
   case first=>
    by_cases hz:f.side=0
    ·have q1:((f.side:Int)==0)=true:=by rw[hz];rfl
     go_wp2;go_meet;rw[hz];exact⟨A1,A0,rfl,rfl,Ah ⟨YC.out.2,YC.out.1⟩,rfl⟩
    ·have q1:((f.side:Int)==0)=false:=by rw[beq_eq_false_iff_ne];omega
     have ap:f.side=1:=Gu;go_wp2;go_meet;rw[ap];exact⟨A0,A1,rfl,rfl,Ah YC.out,rfl⟩
   obtain⟨AS,AW,rfl,rfl,sm,rfl⟩:=hcut;obtain⟨SL,hSL⟩:=ey (Hv f.k f.c (1-f.side) s.l);obtain⟨SW,uy⟩:=ey (Hv f.k f.c f.side s.l);have I3:=EG.out.sp (1-f.side);have SP:=EG.out.rv;have I4:=EG.out.sp f.side
   have hmvE:s.mv f=Rx m (Mj SW):=by
    show Rx (ofL f.k f.c) (Mj (Hv f.k f.c f.side s.l))=_;rw[HM.out,uy]
   rw[hSL]at sm I3⊢;rw[uy]at sm SP I4⊢;obtain⟨nS,hnS⟩:=ey SL.length;obtain⟨nW,V0⟩:=ey SW.length;have KJ:=Ah (λ(w':Aj) (hb:Below w7.heap.size w7 w')=>qK AW SW SW.length SW.length w' rfl (sm.out.2.below hb) Gu (λx hx=>by have:=I4.2.2.2 x hx;omega));have k_:=Ah (λ(w':Aj) (hb:Below w7.heap.size w7 w') (A':Option Ci) (c':Nat) (ha:Hz w' A' (Mj SW))=>uE A' (Mj SW) (Mj SW).length c' m w' rfl ha Gu (λx hx=>by have:=SP.2.2.2 x hx;omega) (by rw[<-HM.out];exact EG.out.mok) SP.2.2.1 (oHx (uG (HM.out▸EG.out.mok))) (AV.out w' (H7.below.trans (hb.mono H7.below.size))).1 (AV.out w' (H7.below.trans (hb.mono H7.below.size))).2);rw[hnS,V0];rw[V0]at KJ;have CS:=Ah hSL;have HSWE:=Ah uy;have PV:=Ah hnS;have HNW:=Ah V0;have HME:=Ah hmvE;have yx:=Ah I3;clear hSL uy I3 SP I4 hmvE hnS V0;obtain⟨⟨m0,m1,m2⟩,-⟩:=He (H7.b 3);obtain⟨S,an,HSO⟩:=Og λW'=>W'.cell? ⟨MB,0,Ae⟩=Af (Aa Ac (m.t:Int))/\W'.cell? ⟨MB,1,Ae⟩=Af (Aa Ab m.x)/\W'.cell? ⟨MB,2,Ae⟩=Af (Aa Ab m.y)
   have ae:Hid (∀W',Below w7.heap.size w7 W'->S W'):=Ah λW' h=>by
    subst an;exact⟨Gv h m0,Gv h m1,Gv h m2⟩
   clear an m0 m1 m2;go_upto_region 17 with fail;refine Ao (S:=S) Gw (ae.out _ (Ag _ _).drew) (λhS=>?_);have hb:Below w7.heap.size w7 w7.drew:=(Ag _ _).drew;have H8:=H7.drew;generalize w7.drew=X0 at hb hS H8⊢;refine Qp 0 2 ?_;refine rdy 1 (λK hK=>?_);go_simp;refine(KJ.out _ hb).mono ?_;rintro e X1 ⟨AR,cR,zR,rfl,hoR,hzR,ac⟩;have hrs:=hoR.stks;rw[hzR]at hrs;have H8:=H8.call ac;have hb:=hb.trans (ac.mono hb.size);refine hK.o (ae.out _ hb) (λhS=>?_);have MD:=k_.out _ hb AR cR hrs;clear hK K ac hoR hzR hrs;refine rdy 3 (λK hK=>?_);go_simp;refine MD.mono ?_;rintro e X2 ⟨ac,gr⟩;have H8:=H8.call ac;have hb:=hb.trans (ac.mono hb.size);rcases gr with⟨oz,rfl⟩|⟨mv,AM,cM,zM,MY,rfl,hoM,hzM⟩
   ·refine hK.o (ae.out _ hb) (λhS=>?_);clear hK K ac MD;refine Hh 4 5 6 7 ?_;refine Kg 8 ?_;refine An Gw ?_ _
    have hR:RR=(3,Ae):=by
     rw[qc.out];unfold xR;rw[HME.out,oz]
    subst hR;obtain⟨z0,z1,z2,z3,z4,z5,z6⟩:=Ku (H8.b 2);have y0:=Iy (H8.b 2) 0;have y1:=Iy (H8.b 2) 1;have y2:=Iy (H8.b 2) 2;have y3:=Iy (H8.b 2) 3;have y4:=Iy (H8.b 2) 4;have y5:=Iy (H8.b 2) 5;have y6:=Iy (H8.b 2) 6;have HZ:=Ah H8.zeroed;clear H8;go_wp2_with fail;exact Ai (Hj rfl rfl (HZ.out.range 2 rfl) Tryz.underlying33 rfl Gw) rfl ⟨HZ.out.below,.inl ⟨rfl,rfl⟩⟩
   ·refine hK.o (ae.out _ hb) (λhS=>?_);have MF:=hoM.stks;rw[hzM]at MF;clear hK K ac MD hoM hzM;refine Hh 4 5 6 7 ?_;refine Kg 8 ?_;refine An Gw ?_ _;clear hS HSO ae KJ k_;have hmvI:=EG.out.mvd (HME.out.trans MY)
    have hR4:RR=if(s.rt f).2≠0 then (3,Ae)else if(s.to f mv).chk=0 then (0,Af (s.to f mv))else (3,Ae):=by
     rw[qc.out];unfold xR;rw[HME.out,MY]
    have AX:=Ah hR4;have TT:=Ah hmvI;obtain⟨nM,hnM⟩:=ey mv.length;rw[hnM];have EL:=Ah hnM;have GF:=Ah (λ(w':Aj) (hb':Below X2.heap.size X2 w')=>show Hz w' AS SL/\Hz w' AM mv from⟨(sm.out.1.below hb).below (hb'.mono (Am _)),MF.below hb'⟩);have TN:Hid (Below w4.heap.size w4 X2):=Ah (i9.trans (hb.mono i9.size));obtain⟨xf,ZO⟩:=ey X2.heap.size;have HOX:Hid (X2.heap.size<=xf):=Ah Gu;have HQO:Hid (Q<xf):=Ah (oHx (H8.lt 2 rfl));have H9:=H8.new #[Aa Ab 0,Aa Ab 0,Ad Ae 0 0,Aa Ac (s.root.t:Int),Aa Ab s.root.x,Aa Ab s.root.y,Ad Ae 0 0] 33 ZO;have bh:=(Ag X2.heap.size X2).alloc (Am _) (.cells #[Aa Ab 0,Aa Ab 0,Ad Ae 0 0,Aa Ac (s.root.t:Int),Aa Ab s.root.x,Aa Ab s.root.y,Ad Ae 0 0] 33);obtain⟨a0,a1,a2,a3,a4,a5,a6⟩:=Ku (H8.b 0);clear hR4 qc hnM MF hb i9 hmvI MY HME sm H8 H7;go_upto_region 21 with fail
    try rw[ZO]
    generalize X2.alloc _=W9 at H9 bh⊢;clear a0 a1 a2 a3 a4 a5 a6 ZO;obtain⟨⟨b0,b1,b2,b3⟩,-⟩:=Jm (H9.b 1)
    have on:0<(Ia s.a s.b s.cr s.root).1.2.length:=by
     rw[FW.out.img_len];have:=(Lf FW.out.pat.sheet).2.1;omega
    have uk:=jD (s:=s) f.k f.c 0 on;rw[wz.out]at uk;obtain⟨s0,G7⟩:=ey (Ir f.k f.c (s.img 0));rw[G7]at uk;have E8:0<SS.length:=(List.getElem?_eq_some_iff.1 uk).1;obtain⟨bB,oB,BD,-,d0⟩:=Rp (HRS.out _ (TN.out.trans (bh.mono TN.out.size))) 0 E8
    have hs0v:SS[0]=s0:=by
     rw[Aw E8]at uk;simpa using uk
    rw[hs0v,De]at d0;have q2:(0:Int)<(ns:Int):=by rw[<-o_.out];omega
    have QB:=Ah G7;subst BD;clear on uk G7 E8 hs0v
    go_quiet (fail)
    have AE:=H9.drewN nq;have iw:=Ij bh nq;generalize W9.drewN nq=W10 at AE iw⊢;clear d0 b0 b1 b2 b3 H9 bh;obtain⟨rr,jd⟩:=ey (s.rt f);rw[jd]at AX;obtain⟨⟨r9,er9⟩,BT⟩:=ey (Vt s.root m)
    have hrq:s0=f.side->rr=(r9,er9):=λh=>by
     rw[<-jd,<-BT];unfold St.rt;rw[QB.out,Hd h,HM.out]
    have hrn:s0≠f.side->rr=(s.root,0):=λh=>by
     rw[<-jd];unfold St.rt;rw[QB.out,Gz h]
    have YF:=Ah (λ(w':Aj) (hb:Below w.heap.size w w')=>show Al Do 71 #[.agg #[Aa Ac s.root.t,Aa Ab s.root.x,Aa Ab s.root.y],.agg #[Aa Ac m.t,Aa Ab m.x,Aa Ab m.y]] w' (Gy (.tuple #[.agg #[Aa Ac r9.t,Aa Ab r9.x,Aa Ab r9.y],er9]) w')by
     have h1:=bK s.root m w' Gu (oHx (uG (HM.out▸EG.out.mok))) (AV.out w' hb).2;have h2:=EG.out.then;rw[HM.out]at h2;rw[h2,BT]at h1;exact h1)
    have y_:=Ah jd;have HRQ:=Ah hrq;have HRN:=Ah hrn;clear jd hrq hrn BT;go_upto_if 91 with fail;go_cut [10]from 91 to 102 (λ_ wx=>Hid (Bx w [(N,#[Aa Ab s.a,Aa Ab s.b,Ad pA s.cr.length pc,Aa Ac s.root.t,Aa Ab s.root.x,Aa Ab s.root.y,Ad A s.l.length cc],33),(P,#[Aa Ac f.k,Aa Ab f.c,Aa Ac f.side,.bool ov],50),(Q,#[Aa Ab 0,Aa Ab 0,Ad Ae 0 0,Aa Ac 0,Aa Ab 0,Aa Ab 0,Ad Ae 0 0],33),(MB,#[Aa Ac (m.t:Int),Aa Ab m.x,Aa Ab m.y],30),(xf,#[Aa Ab 0,Aa Ab 0,Ad Ae 0 0,Aa Ac (rr.1.t:Int),Aa Ab rr.1.x,Aa Ab rr.1.y,Ad Ae 0 0],33)] wx/\Below X2.heap.size X2 wx)/\Hid (rr.2=0))
    case first=>
     by_cases hq:s0=f.side
     ·have q3:((s0:Int)==(f.side:Int))=true:=by rw[hq];exact beq_self_eq_true _
      have jd:=HRQ.out hq;clear hq;obtain⟨o0,o1,o2,o3,o4,o5,o6⟩:=Ku (AE.b 4);have p3:=Iy (AE.b 4) 3;obtain⟨a0,a1,a2,a3,a4,a5,a6⟩:=Ku (AE.b 0);obtain⟨⟨m0,m1,m2⟩,-⟩:=He (AE.b 3);clear o0 o1 o2 o3 o4 o5 o6 p3;go_wp2_with fail;refine(YF.out _ AE.below).mono ?_;rintro ee ED ⟨rfl,hb⟩;have NN:=AE.call hb;have ka:=iw.trans (hb.mono iw.size);clear a0 a1 a2 a3 a4 a5 a6 m0 m1 m2 hb AE iw;obtain⟨o0,o1,o2,o3,o4,o5,o6⟩:=Ku (NN.b 4);have p3:=Iy (NN.b 4) 3;have p4:=Iy (NN.b 4) 4;have p5:=Iy (NN.b 4) 5;have wk:=((NN.set 4 3 rfl (Aa Ac (r9.t:Int))).set 4 4 rfl (Aa Ab r9.x)).set 4 5 rfl (Aa Ab r9.y);have OJ:X2.heap.size<=xf:=HOX.out;have KZ:=((ka.setCell (p:=⟨xf,3,Ae⟩) OJ (Aa Ac (r9.t:Int))).setCell (p:=⟨xf,4,Ae⟩) OJ (Aa Ab r9.x)).setCell (p:=⟨xf,5,Ae⟩) OJ (Aa Ab r9.y);clear NN ka OJ;go_upto_region 23 with fail;generalize ((ED.setCell _ _).setCell _ _).setCell _ _=W12 at wk KZ⊢;clear o0 o1 o2 o3 o4 o5 o6 p3 p4 p5;by_cases he:er9=0
      ·subst he;go_wp2;go_meet;rw[jd];exact⟨Ah ⟨wk,KZ⟩,Ah rfl⟩
      ·have q4:(er9 != 0)=true:=by simpa using he
       have hR:RR=(3,Ae):=by
        rw[AX.out,Hd];rw[jd];exact he
       have wk:Bx w [(N,#[Aa Ab s.a,Aa Ab s.b,Ad pA s.cr.length pc,Aa Ac s.root.t,Aa Ab s.root.x,Aa Ab s.root.y,Ad A s.l.length cc],33),(P,#[Aa Ac f.k,Aa Ab f.c,Aa Ac f.side,.bool ov],50),(Q,#[Aa Ab 0,Aa Ab 0,Ad Ae 0 0,Aa Ac 0,Aa Ab 0,Aa Ab 0,Ad Ae 0 0],33)] W12:=wk.upto 3;subst hR;obtain⟨z0,z1,z2,z3,z4,z5,z6⟩:=Ku (wk.b 2);have y0:=Iy (wk.b 2) 0;have y1:=Iy (wk.b 2) 1;have y2:=Iy (wk.b 2) 2;have y3:=Iy (wk.b 2) 3;have y4:=Iy (wk.b 2) 4;have y5:=Iy (wk.b 2) 5;have y6:=Iy (wk.b 2) 6;have HZ:=Ah wk.zeroed;clear wk;go_wp2_with fail;exact Ai (Hj rfl rfl (HZ.out.range 2 rfl) Tryz.underlying33 rfl Gw) rfl ⟨HZ.out.below,.inl ⟨rfl,rfl⟩⟩
     ·have q3:((s0:Int)==(f.side:Int))=false:=by rw[beq_eq_false_iff_ne];omega
      have jd:=HRN.out hq;go_wp2;go_meet;rw[jd];exact⟨Ah ⟨AE,iw⟩,Ah rfl⟩
    obtain⟨HH,HR0⟩:=hcut
    have hR5:RR=if(s.to f mv).chk=0 then (0,Af (s.to f mv))else (3,Ae):=by
     rw[AX.out,Gz (λh=>h HR0.out)]
    have wv:=Ah hR5;clear hR5 AX AE iw YF HRQ HRN;obtain⟨NN,ka⟩:=HH.out;have br:=GF.out _ ka
    have vi:=λ(w':Aj) (hb:Below X2.heap.size X2 w')=>fK AS AM SL mv nS nM nS cM w' (GF.out _ hb).1 (GF.out _ hb).2 PV.out.symm EL.out.symm (by have h1:=yx.out.1;have h2:=PV.out;omega) (by have h1:=TT.out.1;have h2:=EL.out;omega) (by rw[Zy];have h1:=yx.out.2.1;have h2:=TT.out.2.1;omega) (λx hx=>by
     rcases Bl.1 hx with hx|hx
     ·exact uP (yx.out.2.2.1 x hx)
     ·exact uP (TT.out.2.2.1 x hx))
    have hov2:=λ(w':Aj) (hb:Below X2.heap.size X2 w')=>fK AM AS mv SL nM nS cM nS w' (GF.out _ hb).2 (GF.out _ hb).1 EL.out.symm PV.out.symm (by have h1:=TT.out.1;have h2:=EL.out;omega) (by have h1:=yx.out.1;have h2:=PV.out;omega) (by rw[Zy];have h1:=yx.out.2.1;have h2:=TT.out.2.1;omega) (λx hx=>by
     rcases Bl.1 hx with hx|hx
     ·exact uP (TT.out.2.2.1 x hx)
     ·exact uP (yx.out.2.2.1 x hx))
    have XY:=Ah vi;have t_:=Ah hov2;clear vi hov2 br HH;go_wp2_with fail;refine(XY.out _ ka).mono ?_;rintro ee WW ⟨AO,cO,zO,rfl,OU,TC,hb⟩;have wk:=NN.call hb;have KZ:=ka.trans (hb.mono ka.size);have JH:=NN.lt 4 rfl;have OJ:=HOX.out;obtain⟨o0,o1,o2,o3,o4,o5,o6⟩:=Ku (wk.b 4);have p6:=Iy (wk.b 4) 6;have TJ:=wk.set 4 6 rfl (Ad AO (Kd SL mv).length (Kd SL mv).length);have DD:=KZ.setCell (p:=⟨xf,6,Ae⟩) OJ (Ad AO (Kd SL mv).length (Kd SL mv).length);have MI:=(OU.setLow JH 6 (Ad AO (Kd SL mv).length (Kd SL mv).length)).base (O':=xf+1) JH;have hzO':=Ah TC;clear wk KZ OU JH OJ TC hb NN ka;go_upto_region 26 with fail;generalize WW.setCell _ _=W13 at TJ DD MI⊢;clear o0 o1 o2 o3 o4 o5 o6 p6;obtain⟨⟨b0,b1,b2,b3⟩,-⟩:=Jm (TJ.b 1);obtain⟨TL,S0⟩:=ey ((if ov then Kd SL mv else Kd mv SL));have hTL1:ov=true->Kd SL mv=TL:=λh=>by rw[<-S0,Hd h]
    have hTL2:ov=false->Kd mv SL=TL:=λh=>by rw[<-S0,Gz (by rw[h];decide)]
    have UD:=Ah hTL1;have HT2:=Ah hTL2;have HTL:=Ah S0;clear S0 hTL1 hTL2;go_upto_if 109 with fail;go_cut [110]from 107 to 113 (λ_ wx=>∃(AT:Option Ci) (cT:Nat) (zT:List SkR),Hid (Bx w [(N,#[Aa Ab s.a,Aa Ab s.b,Ad pA s.cr.length pc,Aa Ac s.root.t,Aa Ab s.root.x,Aa Ab s.root.y,Ad A s.l.length cc],33),(P,#[Aa Ac f.k,Aa Ab f.c,Aa Ac f.side,.bool ov],50),(Q,#[Aa Ab 0,Aa Ab 0,Ad Ae 0 0,Aa Ac 0,Aa Ab 0,Aa Ab 0,Ad Ae 0 0],33),(MB,#[Aa Ac (m.t:Int),Aa Ab m.x,Aa Ab m.y],30),(xf,#[Aa Ab 0,Aa Ab 0,Ad Ae 0 0,Aa Ac (rr.1.t:Int),Aa Ab rr.1.x,Aa Ab rr.1.y,Ad AT TL.length TL.length],33)] wx/\Below X2.heap.size X2 wx)/\Hid (Hy (xf+1) wx (Ad AT TL.length cT) zT/\zT.map (·.1)=TL))
    case first=>
     cases ov with
     |true=>
      have HE:=Ah (UD.out rfl);go_wp2;go_meet;rw[HE.out]at TJ MI;exact⟨AO,cO,zO,Ah ⟨TJ,DD⟩,Ah ⟨MI,hzO'.out.trans HE.out⟩⟩
     |false=>
      have e:=HT2.out rfl;have HE:=Ah e;clear e;go_wp2_with fail;refine(t_.out _ DD).mono ?_;rintro ee w14 ⟨AO2,cO2,zO2,rfl,OU,TC,hb⟩;have H14:=TJ.call hb;have hb14:=DD.trans (hb.mono DD.size);have JH:=TJ.lt 4 rfl;have OJ:=HOX.out;obtain⟨o0,o1,o2,o3,o4,o5,o6⟩:=Ku (H14.b 4);have p6:=Iy (H14.b 4) 6;rw[HE.out]at OU TC⊢;have H15:=H14.set 4 6 rfl (Ad AO2 TL.length TL.length);have hb15:=hb14.setCell (p:=⟨xf,6,Ae⟩) OJ (Ad AO2 TL.length TL.length);have ho15:=(OU.setLow JH 6 (Ad AO2 TL.length TL.length)).base (O':=xf+1) JH;have HJ:=Ah (Cm H15 (Cm hb15 (Cm ho15 TC)));clear H14 hb14 OU JH OJ TC hb H15 hb15 ho15 TJ DD MI b0 b1 b2 b3;go_wp2;go_meet;exact⟨AO2,cO2,zO2,Ah ⟨HJ.out.1,HJ.out.2.1⟩,Ah HJ.out.2.2⟩
    obtain⟨AT,cT,zT,HH,HOT⟩:=hcut;have H16:=HH.out.1;have d9:=HH.out.2;clear HH TJ DD MI b0 b1 b2 b3 XY t_ GF
    have hup0:(upF s.a s.b s.cr s.root).2=0:=by
     unfold upF;rw[Gz (λh=>h FW.out.both)]
    have SU:(upF s.a s.b s.cr s.root).1.length=Hg s.a s.b:=Bc8 FW.out.stk;have EA:=UI.out _ H16.below;rw[hup0]at EA;obtain⟨up,J4⟩:=ey ((upF s.a s.b s.cr s.root).1);rw[J4]at EA SU;obtain⟨nu,pu⟩:=ey up.length;rw[pu]at EA SU;have UH:=Ah SU;have IZ:=Ah pu;have HUE:=Ah J4;have J_:=Ah EA;clear hup0 EA J4 pu SU UI;obtain⟨a0,a1,a2,a3,a4,a5,a6⟩:=Ku (H16.b 0);go_wp2_with fail;refine J_.out.mono ?_;rintro ee NM ⟨hb,⟨h0,-⟩|⟨-,GU,rfl,ju,hGU⟩⟩
    ·exact absurd rfl h0
    have H17:=H16.call hb;have g9:=d9.trans (hb.mono d9.size);have hrU:Rd NM (Af ⟨GU,0,Ae⟩) 1 nu (Ib up):=Ug hGU (by simp[Ib,IZ.out]);have XW:=Ah (Cm (HOT.out.1.below hb) HOT.out.2);clear a0 a1 a2 a3 a4 a5 a6 ju hGU J_ H16 d9 HOT hb;obtain⟨UB,hUB⟩:=ey NM.heap.size;have NO:=H17.new #[Ad (Af ⟨GU,0,Ae⟩) nu nu] 82 hUB;have cg:=(Ag NM.heap.size NM).alloc (Am _) (.cells #[Ad (Af ⟨GU,0,Ae⟩) nu nu] 82);have LB:=g9.trans (cg.mono g9.size);have MT:=hrU.below cg;have PX:=Ah (Cm (XW.out.1.below cg) XW.out.2);clear H17 g9 hrU cg XW;go_upto_region 29 with fail
    try rw[hUB]
    generalize NM.alloc _=Q_ at NO LB MT PX⊢;clear hUB
    have hPLb:∀u∈PL,u.1<nu:=λu hu=>by
     have h1:=(Qz (s:=s) (k:=f.k) (c:=f.c) (u:=u) (by rw[lm.out];exact hu)).1;have h2:=(Nb h1).2.1;have h3:=UH.out;omega
    have ob:np<=3072:=by
     have h1:PL.length<=(Kq s.a s.b).length:=by rw[<-lm.out,pV];exact List.length_filter_le _ _
     have h2:=Sb s.a s.b (3*Hg s.a s.b);have h3:=Sw FW.out.pat.sheet;have h4:=NU.out;unfold Kq at h1;omega
    have hkf:∀u:Nat×Nat,(if up.getD u.1 false=ov then (2:Int)else 1)=s.kf f u.1:=λu=>by
     unfold St.kf;rw[HUE.out,u_.out]
    have HQW0:Hid (Q<Q_.heap.size):=Ah (NO.lt 2 rfl);have HWW:=Ah NO.below.size;have hub:=pR (NO.b 5);have BS:=(Jm (NO.b 1)).1.2.2.2
    have x6:=mY s.a s.b pA s.cr s.cr.length pc AP PL np cP UB P (s.kf f) Q_ rfl HPA.out (HPR.out _ NO.below) Gu NU.out.symm (x_.out _ (TN.out.trans (LB.mono TN.out.size))) ob (by rw[<-lm.out];exact iP FW.out.pat f.k f.c (s.kf f)) (λw' hb u hu=>by
     have h:=sS u.1 UB P (Af ⟨GU,0,Ae⟩) nu nu up ov w' IZ.out.symm (MT.below hb) (hPLb u hu) (Gv hb hub) (Gv hb BS)
     rwa [hkf u]at h)
    obtain⟨CR,hCR⟩:=ey (Oc (s.cr++Ma PL (s.kf f)));rw[hCR]at x6
    have hto:s.to f mv=⟨s.a,s.b,CR,rr.1,TL⟩:=by
     unfold St.to;rw[lm.out,hCR,y_.out,CS.out,u_.out];exact congrArg _ HTL.out
    have KK:=Ah hto;have Z2:=Ah x6;obtain⟨nC,hnC⟩:=ey CR.length;clear hPLb hkf hub BS x6 hto hCR MT;obtain⟨a0,a1,a2,a3,a4,a5,a6⟩:=Ku (NO.b 0);go_wp2_with fail;refine Z2.out.mono ?_;rintro ee w19 ⟨AC,cC,rfl,hAC,hoC,hb⟩;rw[hnC]at hAC hoC⊢;have M5:=NO.call hb;have hb19:=LB.trans (hb.mono LB.size);have hO19:=PX.out.1.below hb;have JH:=NO.lt 4 rfl;have CI:=Ah hnC;clear a0 a1 a2 a3 a4 a5 a6 hb NO LB Z2 hnC;obtain⟨o0,o1,o2,o3,o4,o5,o6⟩:=Ku (M5.b 4);have p0:=Iy (M5.b 4) 0;have p1:=Iy (M5.b 4) 1;have p2:=Iy (M5.b 4) 2;have TK:=((M5.set 4 0 rfl (Aa Ab s.a)).set 4 1 rfl (Aa Ab s.b)).set 4 2 rfl (Ad AC nC nC);have FI:=Ja (Ja (Ja hoC JH 0 (Aa Ab s.a)) JH 1 (Aa Ab s.b)) JH 2 (Ad AC nC nC);have QS:=((hO19.setLow (g:=xf) Gu 0 (Aa Ab s.a)).setLow (g:=xf) Gu 1 (Aa Ab s.b)).setLow (g:=xf) Gu 2 (Ad AC nC nC);clear M5 hb19 hO19 hoC JH;go_upto_region 30 with fail;generalize ((w19.setCell _ _).setCell _ _).setCell _ _=W20 at TK FI QS⊢;clear o0 o1 o2 o3 o4 o5 o6 p0 p1 p2;have dm:=EG.out.up yx.out TT.out;have hbd2:=EG.out.up TT.out yx.out
    have hTb:TL.length<=2048/\(∀x∈TL,x.ls.length<=2048)/\∀x∈TL,x.c.q<=255:=by
     rw[<-HTL.out]
     split
     ·exact dm
     ·exact hbd2
    have zu:Lq (s.to f mv).a (s.to f mv).b (s.to f mv).cr:=pQ FW.out.pat f mv;have G6:=EG.out.rtt;rw[y_.out]at G6;rw[KK.out]at zu;dsimp only at zu;have hstT:=QS.stksN PX.out.2;have RC:=λ(w':Aj) (hb:Below W20.heap.size W20 w')=>aL s.a s.b AC CR nC nC rr.1 AT TL TL.length TL.length w' zu CI.out.symm ((Rd.of_own FI).below hb) (by have:=aN zu.fit zu.asc;have:=CI.out;omega) G6 rfl (hstT.below hb) Gu (λx hx=>by have:=hTb.2.1 x hx;omega) hTb.2.2 (AV.out w' (TK.below.trans (hb.mono TK.below.size))).1 (AV.out w' (TK.below.trans (hb.mono TK.below.size))).2;have e9:St.chk ⟨s.a,s.b,CR,rr.1,TL⟩=(s.to f mv).chk:=by rw[KK.out]
    rw[e9]at RC;obtain⟨ck,hckv⟩:=ey ((s.to f mv).chk);rw[hckv]at RC wv;have Z1:=Ah RC;have HO20:=Ah QS;have HQW:Hid (Q<Q_.heap.size):=Ah HQW0.out;have HOC:=Ah FI;have Y3:=Ah hAC;clear dm hbd2 hTb zu G6 hstT RC e9 hckv FI QS hAC;obtain⟨o0,o1,o2,o3,o4,o5,o6⟩:=Ku (TK.b 4);go_wp2_with fail;refine(Z1.out _ (Ag _ _)).mono ?_;rintro ee w21 ⟨rfl,hb⟩;have tv:=TK.call hb;have Y4:=Ah hb;clear o0 o1 o2 o3 o4 o5 o6 hb TK Z1;by_cases EY:ck=0
    ·subst EY;have hR:RR=(0,Af (s.to f mv)):=by rw[wv.out,Hd rfl]
     subst hR;obtain⟨o0,o1,o2,o3,o4,o5,o6⟩:=Ku (tv.b 4);obtain⟨z0,z1,z2,z3,z4,z5,z6⟩:=Ku (tv.b 2);have y0:=Iy (tv.b 2) 0;have y1:=Iy (tv.b 2) 1;have y2:=Iy (tv.b 2) 2;have y3:=Iy (tv.b 2) 3;have y4:=Iy (tv.b 2) 4;have y5:=Iy (tv.b 2) 5;have y6:=Iy (tv.b 2) 6;have HZ:=((((((tv.set 2 0 rfl (Aa Ab s.a)).set 2 1 rfl (Aa Ab s.b)).set 2 2 rfl (Ad AC nC nC)).set 2 3 rfl (Aa Ac (rr.1.t:Int))).set 2 4 rfl (Aa Ab rr.1.x)).set 2 5 rfl (Aa Ab rr.1.y)).set 2 6 rfl (Ad AT TL.length TL.length);have hq:=HQW.out;have uh:Q<xf+1:=oHx HQO.out;have ho:=Ja (Ja (Ja (Ja (Ja (Ja (Ja (Hx HOC.out (Am _) Y4.out) hq 0 (Aa Ab s.a)) hq 1 (Aa Ab s.b)) hq 2 (Ad AC nC nC)) hq 3 (Aa Ac (rr.1.t:Int))) hq 4 (Aa Ab rr.1.x)) hq 5 (Aa Ab rr.1.y)) hq 6 (Ad AT TL.length TL.length);have hO:=(((((((HO20.out.below Y4.out).setLow uh 0 (Aa Ab s.a)).setLow uh 1 (Aa Ab s.b)).setLow uh 2 (Ad AC nC nC)).setLow uh 3 (Aa Ac (rr.1.t:Int))).setLow uh 4 (Aa Ab rr.1.x)).setLow uh 5 (Aa Ab rr.1.y)).setLow uh 6 (Ad AT TL.length TL.length);have hOlo:=tv.lo 4 _ _ _ rfl
     have br:Xo w.heap.size (((((((w21.setCell ⟨Q,0,Ae⟩ (Aa Ab s.a)).setCell ⟨Q,1,Ae⟩ (Aa Ab s.b)).setCell ⟨Q,2,Ae⟩ (Ad AC nC nC)).setCell ⟨Q,3,Ae⟩ (Aa Ac (rr.1.t:Int))).setCell ⟨Q,4,Ae⟩ (Aa Ab rr.1.x)).setCell ⟨Q,5,Ae⟩ (Aa Ab rr.1.y)).setCell ⟨Q,6,Ae⟩ (Ad AT TL.length TL.length)) [Aa Ab s.a,Aa Ab s.b,Ad AC nC nC,Aa Ac (rr.1.t:Int),Aa Ab rr.1.x,Aa Ab rr.1.y,Ad AT TL.length TL.length] (s.to f mv):=by
      rw[KK.out];have on:=CI.out;subst on;exact Bq0 Y3.out ho HWW.out hO PX.out.2 Gu
     have gw:=Ah br;have UL:=Ah HZ;have hQO:Q≠xf:=oHx HQO.out;have hOQ:xf≠Q:=hQO.symm;clear HZ ho hO hOlo br hq uh tv;go_wp2_with fail;exact Ai (Hj rfl rfl (UL.out.range 2 rfl) Tryz.underlying33 rfl Gw) rfl ⟨UL.out.below,.inr ⟨_,_,rfl,rfl,gw.out⟩⟩
    ·have q5:(ck != 0)=true:=by simpa using EY
     have hR:RR=(3,Ae):=by rw[wv.out,Gz EY]
     clear EY;subst hR;obtain⟨z0,z1,z2,z3,z4,z5,z6⟩:=Ku (tv.b 2);have y0:=Iy (tv.b 2) 0;have y1:=Iy (tv.b 2) 1;have y2:=Iy (tv.b 2) 2;have y3:=Iy (tv.b 2) 3;have y4:=Iy (tv.b 2) 4;have y5:=Iy (tv.b 2) 5;have y6:=Iy (tv.b 2) 6;have HZ:=Ah tv.zeroed;clear tv;go_wp2_with fail;exact Ai (Hj rfl rfl (HZ.out.range 2 rfl) Tryz.underlying33 rfl Gw) rfl ⟨HZ.out.below,.inl ⟨rfl,rfl⟩⟩
def Va (a b:Int):List Stk:=(Dr (Hg a b)).map λid=>⟨(Ia a b [] mv0).1.2.getD id cl0,[id]⟩
theorem sV (a b:Int) (k:Nat) (h:k<Hg a b):(Va a b).take (k+1)=(Va a b).take k++[⟨(Ia a b [] mv0).1.2.getD k cl0,[k]⟩]:=by
 have hl:k<(Va a b).length:=by simpa[Va]using h
 rw[Bc hl];simp[Va]
theorem Ag5 {a b:Int} (hs:okS a b=true):Lq a b []:=⟨hs,Gx,Gx,Gx,.nil,Gx⟩
theorem nU:∀(n:Nat) (g:Nat->Cl),Jy ((Dr n).map λid=>(⟨g id,[id]⟩:Stk))=n
 |0,_=>rfl
 |n+1,g=>by
  rw[List.range_succ,Ey,Zy,nU n g];rfl
def Bq4 (s:St) (w:Aj) (e:Ending) (w':Aj):Prop:=∃cs,e= .returned (.tuple #[.agg cs.toArray,Aa Ab 0])/\Xo w.heap.size w' cs s/\Below w.heap.size w w'
theorem Aq5 (a b:Int) (w:Aj) (hs:okS a b=true) (h0:(Ia a b [] mv0).2=0) (hQ:Qf w) (hT:Tn w):
  Al Do 22 #[.agg #[a,b]] w (Bq4 (Jq a b) w):=by
 have HEM:=Ah (λ(w':Aj)=>Ab3 a b w' hs);have ni:=Ah (λ(w':Aj) (hb:Below w.heap.size w w')=>We a b Ae [] 0 0 mv0 w' (Ag5 hs) rfl Rd.nil Gu Ha (hQ.below hb) (hT.below hb));obtain⟨-,bv,-,jb⟩:=Ny h0;have ta:=Lf hs;have YG:=Ah (λk h=>sV a b k h);have hFL:(Va a b).length=Hg a b:=by simp[Va]
 have hFT:Jy (Va a b)=Hg a b:=nU _ _
 have hFQ:∀x∈Va a b,x.c.q<=255:=λx hx=>by
  obtain⟨id,hid,rfl⟩:=Dq.1 hx;have h1:id<(Ia a b [] mv0).1.2.length:=by rw[bv];simpa using hid
  dsimp only;rw[Ds,Aw h1];exact uP (jb _ (Ay h1))
 have XM:Hid (Jq a b=⟨a,b,[],mv0,Kd [] (Va a b)⟩):=Ah rfl;rw[XM.out];obtain⟨FL,hFLe⟩:=ey (Va a b);rw[hFLe]at hFL hFT hFQ YG⊢;obtain⟨cnt,iz⟩:=ey (Hg a b);rw[iz]at hFL hFT bv YG;have JM:cnt<=1024:=by rw[<-iz];exact ta.2.2
 obtain⟨⟨⟨ms,is⟩,er⟩,RA⟩:∃z,Ia a b [] mv0=z:=⟨_,rfl⟩;rw[RA]at ni h0 bv jb YG;dsimp only at ni h0 bv jb YG;subst h0;rw[bv]at ni;have wq:=Ah bv;have Z9:=Ah jb;have yq:=Ah hFL;have Z5:=Ah hFT;have HFQ:=Ah hFQ;have H:=((Bx.start w).new #[a,b] 25 rfl).new #[Aa Ab 0,Aa Ab 0,Ad Ae 0 0,Aa Ac 0,Aa Ab 0,Aa Ab 0,Ad Ae 0 0] 33 (N:=w.heap.size+1) Gx;clear hs hQ hT bv jb ta hFL hFT hFQ hFLe iz RA XM;go_enter Tryz.func22,Tryz.ntmps22;go_upto_region 1 with fail;obtain⟨N,hN⟩:=ez w.heap.size;rw[<-hN]at H⊢;have db:=Ah hN;clear hN;generalize N+1=Q at H⊢;generalize (w.alloc _).alloc _=W1 at H⊢;obtain⟨⟨a0,a1⟩,-⟩:=Hn (H.b 0);go_wp2_with fail;refine(HEM.out _).mono ?_;rintro ee w2 ⟨rfl,hb⟩;have H2:=H.call hb;clear a0 a1 hb H HEM;obtain⟨P,hP⟩:=ey w2.heap.size;have H3:=H2.new #[a,b,Ad Ae 0 0] 28 hP;clear H2;go_upto_region 4 with fail
 try rw[hP]
 generalize w2.alloc _=W3 at H3⊢;clear hP;obtain⟨⟨p0,p1,p2⟩,-⟩:=He (H3.b 2);obtain⟨S,an,HSO⟩:=Og λW'=>W'.cell? ⟨P,0,Ae⟩=Af (Aa Ab a)/\W'.cell? ⟨P,1,Ae⟩=Af (Aa Ab b)/\W'.cell? ⟨P,2,Ae⟩=Af (Ad Ae 0 0)
 have ae:Hid (∀W',Below W3.heap.size W3 W'->S W'):=Ah λW' h=>by
  subst an;exact⟨Gv h p0,Gv h p1,Gv h p2⟩
 clear an p0 p1 p2;refine Ao (S:=S) Gw (ae.out _ (Ag _ _).drew) (λhS=>?_);have hb:Below W3.heap.size W3 W3.drew:=(Ag _ _).drew;have H4:=H3.drew;generalize W3.drew=X0 at hb hS H4⊢;refine Kg 0 ?_;refine rdy 1 (λK hK=>?_);go_simp;refine(Yw _).mono ?_;rintro e X1 ⟨rfl,ac⟩;have H4:=H4.call ac;have hb:=hb.trans (ac.mono hb.size);refine hK.o (ae.out _ hb) (λhS=>?_);clear hK K ac;unfold Mv.v mv0;dsimp only;have DM:=ni.out _ H4.below;unfold mv0 at DM;dsimp only at DM;refine rdy 2 (λK hK=>?_);go_simp;refine DM.mono ?_;rintro e X2 ⟨ac,⟨h0,-⟩|⟨-,G2,rfl,ju,KQ⟩⟩
 ·exact absurd rfl h0
 have H5:=H4.join ac ju KQ;have hb:=hb.trans (ac.mono hb.size);refine hK.o (ae.out _ hb) (λhS=>?_);clear hK K ac DM ju KQ H4 H3;refine Hh 3 4 5 6 ?_;refine Kg 7 ?_;refine An Gw ?_ _;clear hS HSO ae hb ni;obtain⟨GO,pj⟩:=ey X2.heap.size;have uf:=aT cnt Gu X2;have BI:=Hy.made X2 cnt Gu
 have HLO:Hid (∀x∈[(N,#[Aa Ab a,Aa Ab b],25),(Q,#[Aa Ab 0,Aa Ab 0,Ad Ae 0 0,Aa Ac 0,Aa Ab 0,Aa Ab 0,Ad Ae 0 0],33),(P,#[Aa Ab a,Aa Ab b,Ad Ae 0 0],28),(G2,(Nx is).toArray,90)],x.1<GO):=Ah (by
  intro x hx;obtain⟨i,hi,rfl⟩:=Be.1 hx;rw[<-pj];exact H5.lt i (Aw hi))
 have UJ:Hid (w.heap.size<=GO):=Ah (oHx H5.below.size);have H6:=H5.other (.cells ((Ba cnt skZ).flatMap Jb).toArray 92);rw[pj]at uf BI;clear H5;go_upto_region 8 with fail
 try rw[pj]
 generalize X2.alloc _=W8 at H6 BI⊢;have fw:Hid (∃zl:List SkR,zl.length=0/\zl.map (·.1)=FL.take 0/\Hy GO W8 (Ad (Af ⟨GO,0,Ae⟩) cnt cnt) (zl++Ba (cnt-0) skZ)):=Ah ⟨[],rfl,rfl,BI⟩;have IW:Hid (Bx w [(N,#[Aa Ab a,Aa Ab b],25),(Q,#[Aa Ab 0,Aa Ab 0,Ad Ae 0 0,Aa Ac 0,Aa Ab 0,Aa Ab 0,Ad Ae 0 0],33),(P,#[Aa Ab a,Aa Ab b,Ad Ae 0 0],28),(G2,(Nx is).toArray,90)] W8/\GO<=W8.heap.size):=Ah ⟨H6,by have:=(BI.1.lt GO rfl).2;omega⟩;clear uf pj BI H6;go_wp2
 go_loopw [34] (λs34 wr=>∃k:Nat,k<=cnt/\s34= Aa Ab k/\Hid (∃zl:List SkR,zl.length=k/\zl.map (·.1)=FL.take k/\Hy GO wr (Ad (Af ⟨GO,0,Ae⟩) cnt cnt) (zl++Ba (cnt-k) skZ))/\Hid (Bx w [(N,#[Aa Ab a,Aa Ab b],25),(Q,#[Aa Ab 0,Aa Ab 0,Ad Ae 0 0,Aa Ac 0,Aa Ab 0,Aa Ab 0,Ad Ae 0 0],33),(P,#[Aa Ab a,Aa Ab b,Ad Ae 0 0],28),(G2,(Nx is).toArray,90)] wr/\GO<=wr.heap.size)) (λs34 _=>cnt-(intOf s34).toNat)
 case atStart=>exact⟨0,Gu,rfl,fw,IW⟩
 obtain⟨k,hk,rfl,HZ,HJ⟩:=hrel;clear fw IW;by_cases ad:k<cnt
 ·have q0:(k:Int)<(cnt:Int):=Gu;have bv:k<is.length:=oHx wq.out;obtain⟨b9,o9,e9,-,d0,d1,d2⟩:=Ax4 (Ug (HJ.out.1.b 3) (Om is)) k bv;obtain⟨rfl,rfl⟩:G2=b9/\0=o9:=by simpa using e9
  rw[Bt]at d0 d1 d2;have ra:=YG.out k ad;rw[show is.getD k cl0=is[k]by rw[Ds,Aw bv];rfl]at ra;obtain⟨⟨x0,x1,x2⟩,hx⟩:=ey (is[k]);rw[hx]at d0 d1 d2 ra;dsimp only at d0 d1 d2;have HT2:=Ah ra;obtain⟨X,hX⟩:=ey wr.heap.size;have H:=HJ.out.1.new #[x0,x1,Aa Ac x2] 90 hX;have cg:=(Ag wr.heap.size wr).alloc (Am _) (.cells #[x0,x1,Aa Ac x2] 90);clear hx ra e9 bv;go_upto_region 11 with fail
  try rw[hX]
  generalize wr.alloc _=W9 at H cg⊢;clear d0 d1 d2 hX;obtain⟨⟨e0,e1,e2⟩,-⟩:=He (H.b 4);have KY:=H.lt 4 rfl;obtain⟨zl,dp,ap,ca⟩:=HZ.out;obtain⟨Y,hY⟩:=ey W9.heap.size;have iw:=cg.alloc cg.size (.cells #[(k:Int)] 3);have hYl:wr.heap.size<=Y:=hY▸cg.size
  have jj:Nl wr.heap.size (W9.alloc (.cells #[(k:Int)] 3)) (⟨⟨x0,x1,x2⟩,[k]⟩,(Af ⟨Y,0,Ae⟩,1)):=by
   refine⟨.inr ⟨Y,0,rfl⟩,Am _,by show 1<=maxLen;unfold maxLen;omega,rfl,.inr ⟨Y,#[Aa Ab (k:Int)],rfl,hYl,?_,?_,rfl⟩⟩
   ·rw[<-hY];exact Bz W9 _
   ·exact Am _
  obtain⟨df,dg,dj⟩:=Zl ca (i:=k) (by simp[dp];omega) iw jj HJ.out.2
  have qh:(zl++Ba (cnt-k) skZ).set k (⟨⟨x0,x1,x2⟩,[k]⟩,(Af ⟨Y,0,Ae⟩,1))=(zl++[(⟨⟨x0,x1,x2⟩,[k]⟩,(Af ⟨Y,0,Ae⟩,1))])++Ba (cnt-(k+1)) skZ:=by
   rw[Gg _ _ Gu,dp,Fk];rw[show cnt-k=(cnt-(k+1))+1 by omega,List.replicate_succ,Cf];simp
  rw[qh]at dj;dsimp only at dj;obtain⟨v0,g0⟩:=df 0 Gu;obtain⟨v1,g1⟩:=df 1 Gu;obtain⟨v2,g2⟩:=df 2 Gu;obtain⟨v3,g3⟩:=df 3 Gu;rw[De]at g0;have z0:=dg (k*4);have z1:=dg (k*4+1);have z2:=dg (k*4+2);have z3:=dg (k*4+3);have bh:Below GO wr (W9.alloc (.cells #[(k:Int)] 3)):=iw.mono HJ.out.2;have OK:=(((bh.setCell (p:=⟨GO,k*4,Ae⟩) (Am _) (Aa Ab x0)).setCell (p:=⟨GO,k*4+1,Ae⟩) (Am _) (Aa Ab x1)).setCell (p:=⟨GO,k*4+2,Ae⟩) (Am _) (Aa Ac x2)).setCell (p:=⟨GO,k*4+3,Ae⟩) (Am _) (Ad (Af ⟨Y,0,Ae⟩) 1 1);have hB:=HJ.out.1.keepN HLO.out UJ.out OK;have ir:=OK.size;have CO:=Ah (Cm dj (Cm hB (Br HJ.out.2 ir)));have HZM:Hid ((zl++[((⟨⟨x0,x1,x2⟩,[k]⟩,(Af ⟨Y,0,Ae⟩,1)):SkR)]).length=k+1/\(zl++[((⟨⟨x0,x1,x2⟩,[k]⟩,(Af ⟨Y,0,Ae⟩,1)):SkR)]).map (·.1)=FL.take (k+1)):=Ah ⟨by rw[Bh,dp];rfl,by rw[Ey,ap,HT2.out];rfl⟩;clear df dg qh jj dp ap ca iw bh OK hB ir dj cg H HZ HJ KY hYl;go_wp2;exact⟨⟨k+1,Gu,by go_num,Ah ⟨_,HZM.out.1,HZM.out.2,CO.out.1⟩,Ah CO.out.2⟩,by simp[intOf];omega⟩
 ·obtain⟨W1,rfl⟩:=ez wr;obtain rfl:k=cnt:=Gu;have q0:¬(k:Int)<(k:Int):=Gu;obtain⟨zl,dp,ap,ca⟩:=HZ.out;have ht:FL.take k=FL:=Bg (oHx yq.out);rw[ht]at ap;rw[Fk,List.replicate_zero,Fe]at ca;have br:=ca.stksN ap;have XY:=Ah (λ(w':Aj) (hb:Below W1.heap.size W1 w')=>fK Ae (Af ⟨GO,0,Ae⟩) [] FL 0 k 0 k w' ⟨[],rfl,Rd.nil,λi h=>absurd h (Nat.not_lt_zero _)⟩ (br.below hb) rfl yq.out.symm Gu Gu (by rw[Et,Z5.out];omega) (by rw[Et];exact HFQ.out));have H:=HJ.out.1;obtain⟨⟨p0,p1,p2⟩,-⟩:=He (H.b 2);obtain⟨S,an,HSO⟩:=Og λW'=>W'.cell? ⟨P,0,Ae⟩=Af (Aa Ab a)/\W'.cell? ⟨P,1,Ae⟩=Af (Aa Ab b)/\W'.cell? ⟨P,2,Ae⟩=Af (Ad Ae 0 0)
  have ae:Hid (∀W',W'.heap[P]? =W1.heap[P]? ->S W'):=Ah λW' h=>by
   have hc:∀j v,W1.cell? ⟨P,j,Ae⟩=Af v->W'.cell? ⟨P,j,Ae⟩=Af v:=λj v hv=>by
    unfold World.cell? at hv⊢;rw[h];exact hv
   subst an;exact⟨hc _ _ p0,hc _ _ p1,hc _ _ p2⟩
  have JI:=H.lt 2 rfl;clear an p0 p1 p2 br dp ap ca ht HZ HJ;go_upto_region 13 with fail;refine Ao (S:=S) Gw (ae.out _ rfl) (λhS=>?_);have hb:Below W1.heap.size W1 W1.drew:=(Ag _ _).drew;have H2:=H.drew;generalize W1.drew=X5 at hb hS H2⊢;refine Qp 0 2 ?_;refine rdy 1 (λK hK=>?_);go_simp;refine(Yw _).mono ?_;rintro e X6 ⟨rfl,ac⟩;have H3:=H2.call ac;have hb:=hb.trans (ac.mono hb.size);refine hK.o (ae.out _ (hb.block P JI)) (λhS=>?_);clear hK K ac H2;unfold Mv.v mv0;dsimp only;refine rdy 3 (λK hK=>?_);go_simp;refine(XY.out _ hb).mono ?_;rintro e X7 ⟨AO,cO,zO,rfl,OU,TC,ac⟩;have VA:=H3.lt 1 rfl;have un:=Ah H3.below.size;have H4:=H3.call ac;have hb:=hb.trans (ac.mono hb.size);refine hK.o (ae.out _ (hb.block P JI)) (λhS=>?_);clear hK K ac H3 H;refine Kg 4 ?_;obtain⟨z0,z1,z2,z3,z4,z5,z6⟩:=Ku (H4.b 1);have y0:=Iy (H4.b 1) 0;have y1:=Iy (H4.b 1) 1;have y2:=Iy (H4.b 1) 2;have y3:=Iy (H4.b 1) 3;have y4:=Iy (H4.b 1) 4;have y5:=Iy (H4.b 1) 5;have y6:=Iy (H4.b 1) 6;have ZP:P≠Q:=H4.ne 2 1 Ha rfl rfl;obtain⟨n9,hn9⟩:=ey ((Kd [] FL).length);rw[hn9]at OU⊢;have HZ:=((((((H4.set 1 0 rfl (Aa Ab a)).set 1 1 rfl (Aa Ab b)).set 1 2 rfl (Ad Ae 0 0)).set 1 3 rfl (Aa Ac 0)).set 1 4 rfl (Aa Ab 0)).set 1 5 rfl (Aa Ab 0)).set 1 6 rfl (Ad AO n9 n9);have hO:=((((((OU.setLow VA 0 (Aa Ab a)).setLow VA 1 (Aa Ab b)).setLow VA 2 (Ad Ae 0 0)).setLow VA 3 (Aa Ac 0)).setLow VA 4 (Aa Ab 0)).setLow VA 5 (Aa Ab 0)).setLow VA 6 (Ad AO n9 n9)
  have hsP:S (((((((X7.setCell ⟨Q,0,Ae⟩ (Aa Ab a)).setCell ⟨Q,1,Ae⟩ (Aa Ab b)).setCell ⟨Q,2,Ae⟩ (Ad Ae 0 0)).setCell ⟨Q,3,Ae⟩ (Aa Ac 0)).setCell ⟨Q,4,Ae⟩ (Aa Ab 0)).setCell ⟨Q,5,Ae⟩ (Aa Ab 0)).setCell ⟨Q,6,Ae⟩ (Ad AO n9 n9)):=by
   refine ae.out _ ?_;rw[Dp _ ⟨Q,6,Ae⟩ _ P ZP,Dp _ ⟨Q,5,Ae⟩ _ P ZP,Dp _ ⟨Q,4,Ae⟩ _ P ZP,Dp _ ⟨Q,3,Ae⟩ _ P ZP,Dp _ ⟨Q,2,Ae⟩ _ P ZP,Dp _ ⟨Q,1,Ae⟩ _ P ZP,Dp _ ⟨Q,0,Ae⟩ _ P ZP];exact hb.block P JI
  have gw:Hid (Xo w.heap.size (((((((X7.setCell ⟨Q,0,Ae⟩ (Aa Ab a)).setCell ⟨Q,1,Ae⟩ (Aa Ab b)).setCell ⟨Q,2,Ae⟩ (Ad Ae 0 0)).setCell ⟨Q,3,Ae⟩ (Aa Ac 0)).setCell ⟨Q,4,Ae⟩ (Aa Ab 0)).setCell ⟨Q,5,Ae⟩ (Aa Ab 0)).setCell ⟨Q,6,Ae⟩ (Ad AO n9 n9)) [Aa Ab a,Aa Ab b,Ad Ae 0 0,Aa Ac 0,Aa Ab 0,Aa Ab 0,Ad AO n9 n9] ⟨a,b,[],mv0,Kd [] FL⟩):=Ah (by
   have de:=un.out;subst hn9;exact Bq0 (cr:=[]) (rt:=mv0) (.inl ⟨rfl,rfl,rfl⟩) (O:=w.heap.size) (e:=192) (co:=0) ⟨rfl,.inl ⟨rfl,rfl⟩⟩ (Am _) hO TC Gu)
  have UL:=Ah HZ;have tz:=Ah hsP;clear HZ hO hsP OU TC hn9 H4 VA hb JI ae;refine rdy 5 (λK hK=>?_);go_simp;refine hK.o tz.out (λhS=>?_);clear hK K z0 z1 z2 z3 z4 z5 z6 y0 y1 y2 y3 y4 y5 y6;refine Kg 6 ?_;refine An Gw ?_ _;go_wp2_with fail;exact Ai (Hj rfl rfl (UL.out.range 1 rfl) Tryz.underlying33 rfl Gw) rfl ⟨_,rfl,gw.out,UL.out.below⟩
end Go.Proofs.YtlgkpdfieaadaaaGreatDoor
