import Derived.Test.YthpcfeifmdbhnaaGreatDoorQOvi
import Derived.Test.YthpcfeifmdbhnaaGreatDoorQPim
import Derived.Test.YthpcfeifmdbhnaaGreatDoorQLkm
import Derived.Test.YthpcfeifmdbhnaaGreatDoorQKnl
open Array renaming getElem?_eq_some_iff→Au
open Go renaming Calls→Al,Value→Ak,World→Aj,bodyPost_ret→Ai,cell_of_row→By,heap_alloc_new→Bz,wpAnyH_done→An,wpAnyH_ready→Ap,wp_region_held_drew→Ao
open Go.AllReadyH renaming cons→Aq,nil→Ar
open Go.IntKind renaming i64→Ab,u8→Ac
open Go.Lib renaming hid→Ah,wpList_append_run→As
open Go.RowKit.Below renaming refl→Ag
open Go.Value renaming int→Aa,slice→Ad
open List renaming append_assoc→Bj,getElem?_eq_getElem→Aw,getElem_cons_succ→Cd,getElem_cons_zero→Cc,getElem_mem→Ay,getElem_toArray→Ce,length_append→Bh,length_map→Bo,length_take→Bm,mem_append→Bl,mem_cons→Bk,mem_iff_getElem→Be,replicate→Ba,setIfInBounds_toArray→Ch,set_cons_succ→Cg,set_cons_zero→Cf,take_of_length_le→Bg,take_succ_eq_append_getElem→Bc
open Nat renaming le_refl→Am,le_trans→Br,lt_of_lt_of_le→Bq,zero_add→Bt
open Option renaming none→Ae,some→Af
set_option maxHeartbeats 16000000
set_option maxRecDepth 100000
namespace Go.Proofs.YthpcfeifmdbhnaaGreatDoor
open Go.RowKit Go.Sort
def Ag1 (l:List Stk) (w:Aj) (e:Ending) (w':Aj):Prop:=∃A c zl,e= .returned (Ad A l.length l.length)∧Dd w.heap.size w' (Ad A l.length c) zl∧zl.map (·.1)=l∧Below w.heap.size w w'
theorem Dd.cloned {O O2 n c2:Nat} {w w':Aj} {v:Ak} {A':Option Addr} {zl:List SkR} (h:Dd O w v zl) (hb:Below w.heap.size w w') (hO:O2≤O) (hr:w'.ownsRow O2 89 4 (Ad A' n c2) zl.length (zl.flatMap Eg)):Dd O2 w' (Ad A' n c2) zl:=
 ⟨hr,λx hx=>((h.below hb).2.1 x hx).base hO,h.2.2⟩
theorem Dd.stksN {O:Nat} {w:Aj} {A:Option Addr} {n c:Nat} {zl:List SkR} {l:List Stk} (h:Dd O w (Ad A n c) zl) (hl:zl.map (·.1)=l):Dh w A l:=hl▸h.stks
theorem jI:∀(zl:List SkR),(∀x∈zl,x.1.c.q≤255)→∃D:List SkE,D.map (·.1)=zl
 |[],_=>⟨[],rfl⟩
 |x::r,h=>by
  obtain⟨D,hD⟩:=jI r λy hy=>h y (by simp[hy]);exact⟨⟨x,h x Cn⟩::D,by rw[List.map_cons,hD]⟩
theorem jH (D:List SkE):D.flatMap skV=(D.map (·.1)).flatMap Eg:=by
 rw[List.flatMap_map];rfl
theorem dQ {O m:Nat} {w w':Aj} {A:Option Addr} {c:Nat} {zl:List SkR} {D l':List SkE} (h:Dd O w (Ad A m c) zl) (hm:m=zl.length) (hD:D.map (·.1)=zl) (hp:l'.Perm D) (hs:l'.Pairwise λp q=>ltOf jG q p=false)
  (ho:w'.ownsRow O 89 4 (Ad A m c) m (l'.flatMap skV)) (hg:w.grownBy w' (Value.ownBlock (Ad A m c))) (hn:((zl.map (·.1)).map (·.c)).Nodup):
  ∃z2:List SkR,z2.length=m∧z2.map (·.1)=Iw (zl.map (·.1))∧Dd O w' (Ad A m c) z2:=by
 have hpm:(l'.map (·.1)).Perm zl:=hD▸hp.map (·.1);have hl:(l'.map (·.1)).length=m:=by rw[hpm.length_eq,hm]
 refine⟨l'.map (·.1),hl,?_,h.perm hpm (by rw[hl,←jH];exact ho) hg⟩;refine dZ (hpm.map (·.1)) ?_ hn;rw[List.pairwise_map,List.pairwise_map];refine hs.imp λ{p q} hh=>?_;rw[Ak8,decide_eq_false_iff_not]at hh;exact hh
theorem Yo (A1 A2:Option Addr) (l1 l2:List Stk) (n1 n2 c1 c2:Nat) (w:Aj) (h1:Dh w A1 l1) (h2:Dh w A2 l2) (e1:n1=l1.length) (e2:n2=l2.length) (b1:n1≤10000) (b2:n2≤10000) (ht:Fc (l1++l2)≤100000) (hq:∀x∈l1++l2,x.c.q≤255):
  Al Tryz.prog 45 #[Ad A1 n1 c1,Ad A2 n2 c2] w (Ag1 (Ev l1 l2) w):=by
 have HCC:=Ah (λ(w':Aj) (hb:Below w.heap.size w w') (sb:Nat) (hs:sb<w'.heap.size) (q1:w'.cell? ⟨sb,0,Ae⟩=Af (Ad A1 n1 c1)) (q2:w'.cell? ⟨sb,0+1,Ae⟩=Af (Ad A2 n2 c2))=>Zq sb 0 A1 A2 l1 l2 n1 n2 c1 c2 2 w' hs q1 q2 (h1.below hb) (h2.below hb) e1 e2 Ci Ci);have HLF:Hid (Ev l1 l2=Iw (Gk (l1++l2))):=Ah rfl;rw[HLF.out];clear HLF;have hLn:(l1++l2).length=n1+n2:=by rw[Bh,e1,e2]
 obtain⟨L,hL⟩:=ey (l1++l2);rw[hL]at HCC ht hq hLn⊢;obtain⟨n,hn⟩:=ey L.length;have hnb:n≤20000:=Ci;have HN:=Ah hn;have HT:=Ah ht;have HQ:=Ah hq;obtain⟨M,hM⟩:=ey w.heap.size;have HMw:=Ah hM;have hmm:(Instr.makeMap 179 Ae).run Tryz.prog w= .ok (.map (Af w.heap.size)) (w.alloc (.map #[] 0)):=by first|rfl|simp[Instr.makeMap]
 have hmd:=Qb clK w;have hb0:=(Ag w.heap.size w).alloc (Am _) (.map #[] 0);rw[hM]at hmm hmd;clear h1 h2 e1 e2 b1 b2 ht hq hL hLn;go_enter Tryz.func45,Tryz.ntmps45;go_upto_region 2 with fail
 try rw[hM]
 obtain⟨W0,hW0⟩:=ez (w.alloc (.map #[] 0));rw[←hW0]at hmd hb0⊢;clear hW0;clear hmm;have hM0:=hmd.lt;obtain⟨SB,hSB⟩:=ey W0.heap.size;have hbq:=(Ag W0.heap.size W0).alloc (Am _) (.cells #[Ad A1 n1 c1,Ad A2 n2 c2] 31);have hb2:=hb0.alloc hb0.size (.cells #[Ad A1 n1 c1,Ad A2 n2 c2] 31);have hcat:=HCC.out _ hb2 SB (by rw[←hSB];simp) (by rw[←hSB];exact(Cy (Bz W0 _)).1.1) (by rw[←hSB];exact(Cy (Bz W0 _)).1.2);have hmd2:=hmd.below hbq hM0;have HMD:=Ah hmd2;have HB2:=Ah hb2;clear HCC hbq hb2 hmd2 hmd hb0;go_wp2_with fail;refine hcat.mono ?_;rintro ee w3 ⟨A,c,rfl,hst,hb3⟩;have hM3:=HMD.out.below hb3 HMD.out.lt;have hMO:=hM3.lt
 have hmap:∃es c,w3.heap[M]? =Af (Obj.map es c):=by
  obtain⟨es,c,h,-⟩:=hM3;exact⟨es,c,h⟩
 have hbw:Below w.heap.size w w3:=HB2.out.trans (hb3.mono HB2.out.size);obtain⟨O,hO⟩:=ey w3.heap.size;rw[hO]at hMO;have HOV:Hid (OvI O M w3 w3 (Ad Ae 0 0) []):=Ah ⟨Dd.nil _ _,Cn,hM3,Off.refl _ _ _,Nat.le_of_eq hO.symm,hMO⟩;have HST:=Ah (λ(wr:Aj) (k:Off O M w3 wr)=>hst.off (Nat.le_of_eq hO) k hmap);have HBW:=Ah hbw;have HOW:Hid (w.heap.size≤O):=Ah (by have:=hbw.size;omega);rw[hn];clear hcat hst hb3 hM3 hMO hmap hbw hO HMD HB2 hSB hM0 hM;go_wp2
 go_loopw [18,6] (λs18 s6 wr=>∃(k m9 c9:Nat) (A9:Option Addr),k≤n∧s18= Aa Ab k∧s6= Ad A9 m9 c9∧m9≤k∧Hid (∃zl:List SkR,zl.length=m9∧zl.map (·.1)=Gk (L.take k)∧OvI O M w3 wr (Ad A9 m9 c9) zl)) (λs18 _ _=>n-(intOf s18).toNat)
 case atStart=>exact⟨0,0,0,Ae,Ci,rfl,rfl,Am _,Ah ⟨[],rfl,rfl,HOV.out⟩⟩
 case round=>
  obtain⟨k,m9,c9,A9,hk,rfl,rfl,hm9,HZ⟩:=hrel;clear HOV;by_cases hlt:k<n
  ·have hkl:k<L.length:=by have:=HN.out;omega
   have q0:(k:Int)<(n:Int):=Ci;obtain⟨zl,hzl,hzg,hzo⟩:=HZ.out;obtain⟨bb,o',A',c',hAA,hbl,⟨d0,d1,d2,d3⟩,hA',hle,hcm,hrd⟩:=(HST.out _ hzo.off).get k hkl;have hmem:=Ay hkl;have hlk:=Br (Lw hmem) HT.out;have hsn:=nA L k hkl;obtain⟨⟨⟨x0,x1,x2⟩,ids⟩,hx⟩:∃z,L[k]=z:=⟨_,rfl⟩;simp only[hx]at d0 d1 d2 d3 hlk hrd hA' hle hsn;obtain⟨m,hm⟩:=ey ids.length;rw[hm]at d3 hlk hrd hA' hle;have HMD:=Ah hm;have HSN:=Ah hsn;have HRD:=Ah hrd;obtain⟨X,hX⟩:=ey wr.heap.size;have H:=(Bx.start wr).new #[Aa Ab x0,Aa Ab x1,Aa Ac x2,Ad A' m c'] 89 hX;have HZO:=Ah hzo;have HZG:=Ah hzg;have HZL:=Ah hzl;subst hAA;clear hsn hrd hx hm hmem hzo hzg hzl HZ;go_upto_region 6 with fail
   try rw[hX]
   obtain⟨W5,hW5⟩:=ez (wr.alloc (.cells #[Aa Ab x0,Aa Ab x1,Aa Ac x2,Ad A' m c'] 89));rw[←hW5]at H⊢;clear hW5;clear d0 d1 d2 d3;obtain⟨⟨e0,e1,e2,e3⟩,-⟩:=Ez (H.blk 0 _ _ _ rfl);have HO5:=Ah (HZO.out.below H.below);by_cases hm0:m=0
   ·subst hm0
    have hG:Gk (L.take (k+1))=Gk (L.take k):=by
     rw[HSN.out,if_pos];have:=List.length_eq_zero_iff.1 HMD.out;subst this;rfl
    have HR:Hid (∃zl:List SkR,zl.length=m9∧zl.map (·.1)=Gk (L.take (k+1))∧OvI O M w3 W5 (Ad A9 m9 c9) zl):=Ah ⟨zl,HZL.out,by rw[hG];exact HZG.out,HO5.out⟩;clear hG;go_wp2;exact⟨⟨k+1,m9,c9,A9,Ci,by go_num,rfl,Ci,HR⟩,by simp[intOf];omega⟩
   ·have hA1:∃ab ao,A'=Af ⟨ab,ao,Ae⟩:=by
     rcases hA' with⟨-,h0,-⟩|h
     ·exact absurd h0 hm0
     ·exact h
    obtain⟨ab,ao,rfl⟩:=hA1;have q1:((m:Int)==0)=false:=by simpa using hm0
    have hG:Gk (L.take (k+1))=Il ⟨⟨x0,x1,x2⟩,ids⟩ (Gk (L.take k)):=by
     rw[HSN.out,if_neg];intro hh;have:ids=[]:=by simpa using hh
     exact hm0 (by rw[←HMD.out,this];rfl)
    rw[←HZG.out]at hG;have HG:=Ah hG;have hlu:=Qa pO Tryz.underlying179 (et:=3) (z:= Aa Ab 0) (λw=>Cm) HO5.out.mp ⟨x0,x1,x2⟩ true;rw[xX]at hlu;have HM0:=Ah hm0;clear hG hA' hm0
    cases hp:No (⟨x0,x1,x2⟩:Cl) (zl.map (·.1)) 0 with
    |some i=>
     rw[hp]at hlu;simp only[if_true,Option.map_some,Option.getD_some,Option.isSome_some]at hlu;unfold clK at hlu;dsimp only at hlu;obtain⟨hil,hic⟩:=nH hp;have hil:i<zl.length:=by simpa using hil
     have hic:zl[i].1.c=⟨x0,x1,x2⟩:=by simpa using hic
     have hadd:Il ⟨⟨x0,x1,x2⟩,ids⟩ (zl.map (·.1))=(zl.map (·.1)).set i ⟨⟨x0,x1,x2⟩,zl[i].1.ls++ids⟩:=by
      obtain⟨_,h2⟩:=kG (x:=⟨⟨x0,x1,x2⟩,ids⟩) hp;rw[h2];simp
     have HADD:=Ah hadd;have HIC:=Ah hic;have hq2:i<m9:=by rw[←HZL.out];exact hil
     have q2:(i:Int)<(m9:Int):=Ci;clear hp hic hadd hq2
     have hnez:0<zl[i].1.ls.length:=by
      have h1:=gX (L.take k);rw[←HZG.out]at h1;exact List.length_pos_iff.2 (h1 _ (List.mem_map.2 ⟨zl[i],Ay hil,rfl⟩))
     have htz:zl[i].1.ls.length+m≤1000000:=by
      have h1:zl[i].1.ls.length≤Fc (zl.map (·.1)):=Lw (List.mem_map.2 ⟨zl[i],Ay hil,rfl⟩);rw[HZG.out,Ry]at h1;have h2:=vS L k;have h3:=HT.out;omega
     go_upto_region 9 with fail;obtain⟨S,hSd⟩:∃S:Aj→Prop,S=λW'=>W'.cell? ⟨X,3,Ae⟩=Af (Ad (Af ⟨ab,ao,Ae⟩) m c'):=⟨_,rfl⟩;have HSO:Hid (∀W',S W'→W'.cell? ⟨X,3,Ae⟩=Af (Ad (Af ⟨ab,ao,Ae⟩) m c')):=Ah λW' h=>by subst hSd;exact h
     have HSA:Hid (∀W',W'.heap[X]? =W5.drew.heap[X]? →S W'):=Ah λW' h=>by
      subst hSd;show W'.cell? ⟨X,3,Ae⟩=_;unfold World.cell? at e3⊢;rw[h];exact e3
     have hXl:X<W5.drew.heap.size:=H.lt 0 rfl;have HOY:=Ah (HO5.out.below (Ag W5.heap.size W5).drew);have HRY:=Ah (HRD.out.below (H.below.trans ((Ag wr.heap.size W5).drew)));refine Ao (S:=S) Cm (HSA.out _ rfl) (λhS=>?_);obtain⟨Y,hY⟩:=ez W5.drew;rw[←hY]at hS HOY HRY HSA hXl⊢;clear hY;have hk0:=HOY.out.out.2.1 zl[i] (Ay hil);obtain⟨G,hA9,hm9z,hGO,hGs,-,-,-,g3⟩:=HOY.out.out.elem i hil;obtain⟨A2,k2,w8,hrun,hx8,hc8,hg8,hA8⟩:=wL hk0 (HOY.out.cap zl[i] (Ay hil)) HOY.out.top hnez ⟨ab,ao,Ae⟩ m c' ids HMD.out HRY.out htz;subst hA9;obtain⟨hov,⟨u8,hu8⟩,hf8⟩:=HOY.out.poke hil ids A2 k2 hx8 hc8 hg8 hA8
     have hXx:∀g,zl[i].2.1.map (·.block)=Af g→g≠X:=λg hg=>by
      have:=((HZO.out.out.2.1 zl[i] (Ay hil)).lt g (by unfold Fp;rw[hg];simp)).2.1;omega
     have hX8:w8.heap[X]? =Y.heap[X]? :=hg8.block X hXl λe=>hXx X e.symm rfl
     have hGX:X≠G:=by
      have h1:=(HZO.out.out.1.lt G rfl).2;omega
     have HS8:=Ah (HSA.out _ hX8);rw[show(zl[i].1.ls++ids).length=zl[i].1.ls.length+m by rw[Bh,HMD.out]]at hov;have HS9:=Ah (HSA.out (w8.setCell ⟨G,i*4+3,Ae⟩ (Ad A2 (zl[i].1.ls.length+m) k2)) ((Below.heap_setCell w8 ⟨G,i*4+3,Ae⟩ _ X hGX).trans hX8));have HRUN:=Ah hrun;have HFIN:Hid (∃z2:List SkR,z2.length=m9∧z2.map (·.1)=Gk (L.take (k+1))∧OvI O M w3 (w8.setCell ⟨G,i*4+3,Ae⟩ (Ad A2 (zl[i].1.ls.length+m) k2)) (Ad (Af ⟨G,0,Ae⟩) m9 c9) z2):=Ah ⟨_,by rw[List.length_set];exact HZL.out,by rw[List.map_set,HG.out,HADD.out,HIC.out],hov⟩;obtain⟨nz,hnz⟩:=ey (zl[i].1.ls.length);obtain⟨Az,hAz⟩:=ey (zl[i].2.1);obtain⟨kz,hkz⟩:=ey (zl[i].2.2);rw[hnz]at HFIN HS9;rw[hnz,hAz,hkz]at g3 HRUN;clear hk0 hx8 hc8 hg8 hA8 hov hXx hX8 hrun hnz hAz hkz HSA HRY hnez htz hGO hGs hm9z HOY hXl;refine Ck 0 ?_;refine Ck 1 ?_;refine Ck 2 ?_;refine Ck 3 ?_;refine Ck 4 ?_;refine Ck 5 ?_;refine Ck 7 ?_;refine Ck 8 ?_;refine rdy 6 (λK hK=>?_);go_simp;refine hK.out _ _ hS (λhS=>?_);clear hK K g3;refine rdy 9 (λK hK=>?_);refine Dq (by simp[Region.wanted]) (.tmp 40) (.tmp 42) 46 rfl _ _ (by simp[Act.eval]) (by simp[Act.eval]) _ _ HRUN.out ?_;refine hK.out _ _ HS8.out (λhS=>?_);clear hK K;refine Ck 10 ?_;refine Ck 11 ?_;refine rdy 12 (λK hK=>?_);go_simp;refine hK.out _ _ HS9.out (λhS=>?_);clear hK K hS;refine An Cm ?_ _;go_wp2;exact⟨⟨k+1,m9,c9,Af ⟨G,0,Ae⟩,Ci,by go_num,rfl,Ci,HFIN⟩,by simp[intOf];omega⟩
    |none=>
     rw[hp]at hlu;simp only[if_true,Option.map_none,Option.getD_none,Option.isSome_none]at hlu;unfold clK at hlu;dsimp only at hlu;have hadd:=(My (x:=⟨⟨x0,x1,x2⟩,ids⟩) hp).1;have HADD:=Ah hadd;have HP:=Ah hp;have hmp:=HO5.out.mp
     have hMX:X≠M:=by
      have h1:=HZO.out.low;have h2:=HZO.out.top;omega
     clear hp hadd;go_wp2_with (at_mapUpdate;refine Mx pO Tryz.underlying179 _ rfl _ _ _ rfl M (Hn (zl.map (·.1)) 0) ⟨x0,x1,x2⟩ (Aa Ab (m9:Int)) rfl rfl rfl hmp ?_;intro w9 hk9 hg9;have hX9:w9.heap[X]? =W5.heap[X]? :=hg9.block X (H.lt 0 rfl) (by simpa using hMX);clear e0 e1 e2 e3;obtain⟨⟨e0,e1,e2,e3⟩,-⟩:=Ez (hX9.trans (H.blk 0 _ _ _ rfl)));have hsz5:=HZO.out.top;have hb5:=H.below;have hXX:X<W5.heap.size:=H.lt 0 rfl;have hrd9:=HRD.out.off (O:=wr.heap.size) (Am _) (((Off.refl wr.heap.size M wr).below hb5).put hb5.size hg9) (by obtain⟨es,cl,h,-⟩:=HZO.out.mp;exact⟨es,cl,h⟩);refine(Lu ⟨x0,x1,x2⟩ (Af ⟨ab,ao,Ae⟩) ids m c' w9 HMD.out.symm (.inr ⟨ab,ao,rfl⟩) hrd9 Ci).mono ?_;rintro ee w10 ⟨A10,rfl,hA10,hrow10,hb10⟩;dsimp only;have ho9:Dd O w9 (Ad A9 m9 c9) zl:=HO5.out.out.lowM λg h1 h2=>hg9.block g h2 (by have:=HO5.out.low;simp;omega);have hO9:O≤w9.heap.size:=Br HO5.out.top hg9.size;have hx10:Ir w9.heap.size w10 (⟨⟨x0,x1,x2⟩,ids⟩,(A10,ids.length)):=⟨hA10,Am _,by show ids.length≤maxLen;have:=HMD.out;unfold maxLen;omega,hrow10⟩;have hc10:Oi w10 (⟨⟨x0,x1,x2⟩,ids⟩,(A10,ids.length)):=Oi.clip hrow10;obtain⟨A11,c11,A12,c12,w12,hv,hrun,ho12,-,hg12,hO12,-⟩:=ho9.app hO9 hb10 hx10 (by have:=HZL.out;omega);obtain⟨rfl,-,rfl⟩:A9=A11∧m9=zl.length∧c9=c11:=by simpa using hv
     have hov:=HO5.out.snoc HP.out (by rw[HZL.out];exact hk9) hg9 hb10 hx10 hc10 ho12 hg12;rw[HZL.out]at hov hrun;simp only[HMD.out]at hov hrun;have HRUN:=Ah hrun;have HFIN:Hid (∃z2:List SkR,z2.length=m9+1∧z2.map (·.1)=Gk (L.take (k+1))∧OvI O M w3 w12 (Ad A12 (m9+1) c12) z2):=Ah ⟨_,by rw[Bh,HZL.out];rfl,by rw[List.map_append,HG.out,HADD.out];rfl,hov⟩;rw[HMD.out];clear hv hrun ho12 hg12 hO12 hov hx10 hc10 ho9 hA10 hrow10 hrd9 hk9 hg9 hX9 e0 e1 e2 e3 hb10;go_wp2_with (at_builtin;refine As _ rfl _ _ _ _ rfl _ _ rfl rfl _ _ HRUN.out ?_);go_wp2;exact⟨⟨k+1,m9+1,c12,A12,Ci,by go_num,rfl,Ci,HFIN⟩,by simp[intOf];omega⟩
  ·obtain⟨W1,rfl⟩:=ez wr;obtain rfl:k=n:=Ci;have q0:¬(k:Int)<(k:Int):=Ci;obtain⟨zl,hzl,hzg,hzo⟩:=HZ.out;have ht:L.take k=L:=Bg (by have:=HN.out;omega);rw[ht]at hzg
   have hq:∀x∈zl,x.1.c.q≤255:=λx hx=>by
    have hm:x.1∈Gk L:=hzg▸List.mem_map.2 ⟨x,hx,rfl⟩;exact Ow L (λc=>c.q≤255) HQ.out _ hm
   obtain⟨D,hD⟩:=jI zl hq;have hown:=hzo.out.1;rw[hzl,←hD,←jH]at hown;have HSRT:=Ah (jL D W1 hown Ci);have hb1:Below w.heap.size w W1:=hzo.off.back HBW.out HOW.out (by rw[HMw.out];exact Am _);obtain⟨F,hF⟩:=ey (Iw (Gk L))
   have hFB:∀x∈F,x.ls.length≤100000:=λx hx=>by
    have h1:x∈Gk L:=(Ei _).mem_iff.1 (hF▸hx);have h2:=Lw h1;rw[Ry]at h2;exact Br h2 HT.out
   have HFB:=Ah hFB
   have HFIN:Hid (∀w4,(∃l':List SkE,l'.Perm D∧l'.Pairwise (λp q=>ltOf jG q p=false)∧w4.ownsRow O 89 4 (Ad A9 m9 c9) m9 (l'.flatMap skV)∧W1.grownBy w4 (Value.ownBlock (Ad A9 m9 c9)))→∃z:List SkR,z.length=m9∧z.map (·.1)=F∧Dd O w4 (Ad A9 m9 c9) z∧Below w.heap.size w w4∧O≤w4.heap.size):=Ah (by
    rintro w4 ⟨l',hp,hs,ho,hg⟩;obtain⟨z2,hz2,hz3,hz4⟩:=dQ hzo.out hzl.symm hD hp hs ho hg (by rw[hzg];exact Pd L);have hbs:=hb1.size;exact⟨z2,hz2,by rw[hz3,hzg,hF],hz4,hb1.grown hg hbs (λg hgv=>Br HOW.out (hzo.out.1.lt g hgv).1),Br hzo.top hg.size⟩)
   have HF:=Ah hF;clear hzl hzg hzo ht hq hD hown hb1 hF hFB HST HBW HZ zl;go_wp2_with fail;refine HSRT.out.mono ?_;rintro ee w4 ⟨rfl,hsr⟩;have HZ:=Ah (HFIN.out w4 hsr);clear hsr HFIN HSRT;go_wp2
   go_loopw [61] (λs61 wr=>∃j:Nat,j≤m9∧s61= Aa Ab j∧Hid (∃z:List SkR,z.length=m9∧z.map (·.1)=F∧Dd O wr (Ad A9 m9 c9) z∧Below w.heap.size w wr∧O≤wr.heap.size)) (λs61 _=>m9-(intOf s61).toNat)
   case atStart=>exact⟨0,Ci,rfl,HZ⟩
   case round=>
    obtain⟨j,hj,rfl,HZ2⟩:=hrel;clear HZ;by_cases hlt:j<m9
    ·have q0:(j:Int)<(m9:Int):=Ci;obtain⟨z,hz1,hz2,hz3,hz4,hz5⟩:=HZ2.out;have hjl:j<z.length:=Ci;obtain⟨G,rfl,-,hGO,hGs,g0,g1,g2,g3⟩:=hz3.elem j hjl;have hk:=hz3.2.1 z[j] (Ay hjl);have hmF:z[j].1∈F:=hz2▸List.mem_map.2 ⟨z[j],Ay hjl,rfl⟩;have hlb:=HFB.out _ hmF
     have hsame:∀y:SkR,y.1=z[j].1→(z.set j y).map (·.1)=F:=λy hy=>by
      rw[List.map_set,hy,←hz2];have e:z[j].1=(z.map (·.1))[j]'(by simpa using hjl):=by rw[List.getElem_map]
      rw[e,List.set_getElem_self]
     obtain⟨⟨⟨⟨x0,x1,x2⟩,ids⟩,A6,k6⟩,hx⟩:∃y,z[j]=y:=⟨_,rfl⟩;rw[hx]at g0 g1 g2 g3 hk hlb hsame;obtain⟨hA6,hle6,hcm6,hrow6⟩:=hk;dsimp only at g0 g1 g2 g3 hA6 hle6 hcm6 hrow6 hlb hsame;obtain⟨m,hm⟩:=ey ids.length;rw[hm]at g3 hA6 hle6 hrow6 hlb;have HMD:=Ah hm;have HCP:=Ah (Lu ⟨x0,x1,x2⟩ A6 ids m k6 wr hm.symm hA6 hrow6.rd Ci);have HSM:=Ah hsame;have HZ3:=Ah hz3;have HZ4:=Ah hz4;have HZ5:=Ah hz5;have HJL:=Ah hjl;have HZ1:=Ah hz1;have hGw:w.heap.size≤G:=Br HOW.out hGO;have HGW:=Ah hGw;clear hz1 hz2 hz3 hz4 hz5 hjl hsame hA6 hle6 hcm6 hrow6 hmF hx hm HZ2 hGO hGs hGw;go_wp2_with fail;refine HCP.out.mono ?_;rintro ee w6 ⟨A9',rfl,hA9,hrow9,hb9⟩;dsimp only;have hx9:Ir wr.heap.size w6 (⟨⟨x0,x1,x2⟩,ids⟩,(A9',ids.length)):=⟨hA9,Am _,by show ids.length≤maxLen;have:=HMD.out;unfold maxLen;omega,hrow9⟩;obtain⟨ucell,ufree,hset⟩:=Te HZ3.out (i:=j) HJL.out hb9 hx9 HZ5.out;have hsm:=HSM.out (⟨⟨x0,x1,x2⟩,ids⟩,(A9',ids.length)) rfl;rw[HMD.out]at hset hsm⊢;dsimp only at hset;obtain⟨v0,g0⟩:=ucell 0 Ci;obtain⟨v1,g1⟩:=ucell 1 Ci;obtain⟨v2,g2⟩:=ucell 2 Ci;obtain⟨v3,g3⟩:=ucell 3 Ci;rw[Nat.add_zero]at g0;have z0:=ufree (j*4);have z1:=ufree (j*4+1);have z2:=ufree (j*4+2);have z3:=ufree (j*4+3);have hb6:=HZ4.out.trans (hb9.mono HZ4.out.size);have hgo:=HGW.out;have hbN:Below w.heap.size w ((((w6.setCell ⟨G,j*4,Ae⟩ (Aa Ab x0)).setCell ⟨G,j*4+1,Ae⟩ (Aa Ab x1)).setCell ⟨G,j*4+2,Ae⟩ (Aa Ac x2)).setCell ⟨G,j*4+3,Ae⟩ (Ad A9' m m)):=(((hb6.setCell (p:=⟨G,j*4,Ae⟩) hgo _).setCell (p:=⟨G,j*4+1,Ae⟩) hgo _).setCell (p:=⟨G,j*4+2,Ae⟩) hgo _).setCell (p:=⟨G,j*4+3,Ae⟩) hgo _
     have hsz:O≤((((w6.setCell ⟨G,j*4,Ae⟩ (Aa Ab x0)).setCell ⟨G,j*4+1,Ae⟩ (Aa Ab x1)).setCell ⟨G,j*4+2,Ae⟩ (Aa Ac x2)).setCell ⟨G,j*4+3,Ae⟩ (Ad A9' m m)).heap.size:=by
      have h1:=HZ5.out;have h2:=hb9.size;simp;omega
     have HREL:Hid (∃z:List SkR,z.length=m9∧z.map (·.1)=F∧Dd O ((((w6.setCell ⟨G,j*4,Ae⟩ (Aa Ab x0)).setCell ⟨G,j*4+1,Ae⟩ (Aa Ab x1)).setCell ⟨G,j*4+2,Ae⟩ (Aa Ac x2)).setCell ⟨G,j*4+3,Ae⟩ (Ad A9' m m)) (Ad (Af ⟨G,0,Ae⟩) m9 c9) z∧Below w.heap.size w ((((w6.setCell ⟨G,j*4,Ae⟩ (Aa Ab x0)).setCell ⟨G,j*4+1,Ae⟩ (Aa Ab x1)).setCell ⟨G,j*4+2,Ae⟩ (Aa Ac x2)).setCell ⟨G,j*4+3,Ae⟩ (Ad A9' m m))∧O≤((((w6.setCell ⟨G,j*4,Ae⟩ (Aa Ab x0)).setCell ⟨G,j*4+1,Ae⟩ (Aa Ab x1)).setCell ⟨G,j*4+2,Ae⟩ (Aa Ac x2)).setCell ⟨G,j*4+3,Ae⟩ (Ad A9' m m)).heap.size):=Ah ⟨_,by rw[List.length_set];exact HZ1.out,hsm,hset,hbN,hsz⟩;clear ucell ufree hset hsm hbN hsz hb6 hgo hb9 hrow9 hA9 hx9;go_wp2;exact⟨⟨j+1,Ci,by go_num,HREL⟩,by simp[intOf];omega⟩
    ·obtain rfl:j=m9:=Ci;have q0:¬(j:Int)<(j:Int):=Ci;obtain⟨z,hz1,hz2,hz3,hz4,hz5⟩:=HZ2.out;have hown:=hz3.1;rw[hz1]at hown;obtain⟨A',c',hv,hA',-,-⟩:=Ja hown;obtain⟨rfl,rfl⟩:A9=A'∧c9=c':=by simpa using hv
     have HCL:=Ah (xG A9 j c9 (z.flatMap Eg) wr hA' (Rd.of_own hown) (Zj z) Ci);have HZ3:=Ah hz3;have HZ4:=Ah hz4;have HZ1:=Ah hz1;have HZ2:=Ah hz2;clear hz1 hz2 hz3 hz4 hz5 hown hv hA';go_wp2_with fail;refine HCL.out.mono ?_;rintro ee w7 ⟨v7,rfl,hown7,hb7⟩;obtain⟨A7,c7,rfl,-,hle7,hcm7⟩:=Ja hown7;have HO7:=Ah hown7;clear hown7;go_wp2_with fail;refine(cQ A7 j c7 w7 hle7 hcm7).mono ?_;rintro ee w8 ⟨rfl,hb8⟩;go_wp2;go_ret;have hFl:F.length=j:=by rw[←HZ2.out,Bo,HZ1.out]
     rw[HF.out];have hwz:=HZ4.out.size;refine⟨A7,c7,z,by rw[hFl];rfl,?_,HZ2.out,(HZ4.out.trans (hb7.mono HZ4.out.size)).trans (hb8.mono (Br HZ4.out.size hb7.size))⟩;have h7:=HZ3.out.cloned hb7 HOW.out (by rw[HZ1.out];exact Iv HO7.out hwz);rw[hFl];exact h7.below hb8
end Go.Proofs.YthpcfeifmdbhnaaGreatDoor
namespace Go.Proofs.YthpcfeifmdbhnaaGreatDoor
open Go.RowKit
structure Hi (b:Nat) (w w':Aj):Prop where
 size:w.heap.size≤w'.heap.size
 blk:∀k,b≤k→k<w.heap.size→w'.heap[k]? =w.heap[k]?
theorem Hi.refl (b:Nat) (w:Aj):Hi b w w:=⟨Am _,λ_ _ _=>rfl⟩
theorem Hi.trans {b:Nat} {w w1 w2:Aj} (h:Hi b w w1) (h2:Hi b w1 w2):Hi b w w2:=
 ⟨Br h.size h2.size,λk hk hl=>(h2.blk k hk (Bq hl h.size)).trans (h.blk k hk hl)⟩
theorem Hi.of {b:Nat} {w w':Aj} (h:Below w.heap.size w w'):Hi b w w':=⟨h.size,λk _ hl=>h.block k hl⟩
theorem Hi.set {b g:Nat} (hg:g<b) (w:Aj) (j:Nat) (v:Ak):Hi b w (w.setCell ⟨g,j,Ae⟩ v):=
 ⟨Cn,λk hk _=>Below.heap_setCell w ⟨g,j,Ae⟩ v k (by show k≠g;omega)⟩
theorem zW {b O sz n:Nat} {e:TypeId} {w w':Aj} {v:Ak} {xs:List Ak} (h:w.ownsRow O e sz v n xs) (hO:b≤O) (hk:Hi b w w'):w'.ownsRow O e sz v n xs:=
 ⟨h.1,h.2.imp id λ⟨g,cap,cur,r1,r2,r3,r⟩=>⟨g,cap,cur,r1,r2,(hk.blk g (Br hO r2) (Au.1 r3).1).trans r3,r⟩⟩
theorem Dd.hi {b O:Nat} {w w':Aj} {v:Ak} {l:List SkR} (h:Dd O w v l) (hO:b≤O) (hk:Hi b w w'):Dd O w' v l:=
 ⟨zW h.1 hO hk,λx hx=>(h.2.1 x hx).same λg hg=>hk.blk g (Br hO ((h.2.1 x hx).lt g hg).1) ((h.2.1 x hx).lt g hg).2.1,h.2.2⟩
def Rb (b:Nat) (w:Aj) (cs:List Ak) (s:St):Prop:=∀w',Hi b w w'→Ay5 w' cs s
theorem Rb.st {b:Nat} {w:Aj} {cs:List Ak} {s:St} (h:Rb b w cs s):Ay5 w cs s:=h w (Hi.refl _ _)
theorem Rb.go {b:Nat} {w w':Aj} {cs:List Ak} {s:St} (h:Rb b w cs s) (hk:Hi b w w'):Rb b w' cs s:=λ_ h2=>h _ (hk.trans h2)
theorem Rb.base {b b':Nat} {w:Aj} {cs:List Ak} {s:St} (h:Rb b w cs s) (hb:b'≤b):Rb b' w cs s:=
 λ_ h2=>h _ ⟨h2.size,λk hk=>h2.blk k (Br hb hk)⟩
theorem Ar2 {b O O2 pc co cc c2:Nat} {w:Aj} {a1 a2:Int} {cr:List Cr} {rt:Mv} {l:List Stk} {e:TypeId} {pA A:Option Addr} {zl:List SkR} (hA:AOk pA cr.length pc) (hp:w.ownsRow O e 3 (Ad pA cr.length co) cr.length (crs cr)) (hO:b≤O)
  (hs:Dd O2 w (Ad A l.length c2) zl) (hz:zl.map (·.1)=l) (hO2:b≤O2):
  Rb b w [Aa Ab a1,Aa Ab a2,Ad pA cr.length pc,Aa Ac rt.t,Aa Ab rt.x,Aa Ab rt.y,Ad A l.length cc] ⟨a1,a2,cr,rt,l⟩:=
 λ_ hk=>⟨⟨pA,pc,A,cc,rfl,hA,Rd.of_own (zW hp hO hk),(hs.hi hO2 hk).stksN hz⟩⟩
theorem Aw2 {k c:Int} (h:okL k c=true):(ofL k c).ok=true:=by
 obtain⟨h1,h2,h3,h4⟩:=Ic.1 h;unfold Mv.ok ofL
 split
 ·rw[Mg];dsimp only;omega
 ·split
  ·rw[Mg];dsimp only;omega
  ·split
   ·rw[Mg];dsimp only;omega
   ·rw[Mg];dsimp only;omega
theorem Ts (l1 l2:List Stk):Fc (l1++l2)=Fc l1+Fc l2:=by
 unfold Fc;rw[List.map_append,List.sum_append]
theorem vR {l1 l2:List Stk} (h:l1.Perm l2):Fc l1=Fc l2:=(h.map _).sum_nat
theorem Ae2 {l1 l2:List Stk} (h:l1.Sublist l2):Fc l1≤Fc l2:=by
 induction h with
 |slnil=>exact Am _
 |cons x _ ih=>simp[Fc]at ih⊢;omega
 |cons_cons x _ ih=>simp[Fc]at ih⊢;omega
theorem oQ (K C:Int) (s:Nat) (l:List Stk):(Dc K C s l).Sublist l:=List.filter_sublist
theorem Ae1 (l:List Stk):Fc (Hq l)=Fc l:=by
 unfold Fc Hq;rw[List.map_map]
 congr 1
 refine List.map_congr_left λx _=>?_;simp
theorem An6 (l:List Stk):(Hq l).length=l.length:=by simp[Hq]
theorem An7 {l:List Stk} {P:Cl→Prop} (h:∀x∈l,P x.c):∀x∈Hq l,P x.c:=λx hx=>by
 obtain⟨y,hy,rfl⟩:=List.mem_map.1 hx;exact h y hy
theorem zG {m:Mv} {l mv:List Stk} (h:Mf m l=Af mv):(∀x∈mv,x.c.ok=true)∧Fc mv=Fc l∧mv.length=l.length:=by
 unfold Mf at h
 split at h
 ·rename_i ha;injection h with h;have hp:=Ei (l.map λx=>(⟨(Gp m x.c).1,x.ls⟩:Stk));rw[h]at hp;refine⟨λx hx=>?_,?_,by rw[hp.length_eq,Bo]⟩
  ·obtain⟨y,hy,rfl⟩:=List.mem_map.1 (hp.mem_iff.1 hx);have:=List.all_eq_true.1 ha y hy;exact gP (by simpa using this)
  ·rw[vR hp];unfold Fc;rw[List.map_map];rfl
 ·cases h
theorem uE (l h:List Stk):(Ev l h).length≤l.length+h.length:=by
 have e:Ev l h=Iw (Gk (l++h)):=rfl;rw[e,(Ei _).length_eq,←Bh];exact tM _
theorem zV (l h:List Stk):∀x∈Ev l h,x.ls.length≤Fc l+Fc h:=λx hx=>by
 have e:Ev l h=Iw (Gk (l++h)):=rfl;rw[e]at hx;have h1:=Lw ((Ei _).mem_iff.1 hx);rw[Ry,Ts]at h1;exact h1
theorem An2 (l h:List Stk) (P:Cl→Prop) (hl:∀x∈l,P x.c) (hh:∀x∈h,P x.c):∀x∈Ev l h,P x.c:=λx hx=>by
 have e:Ev l h=Iw (Gk (l++h)):=rfl;rw[e]at hx;refine Ow (l++h) P (λy hy=>?_) x ((Ei _).mem_iff.1 hx);rcases Bl.1 hy with hy|hy
 ·exact hl y hy
 ·exact hh y hy
theorem mU {c:Cl} (h:c.ok=true):c.q≤255:=by
 have:=(Eu.1 h).2.2.2.2;omega
structure Iz (s:St) (f:Fd):Prop where
 gs:Gs s
 side:f.side≤1
 okl:okL f.k f.c=true
theorem Ai0 {s:St} {f:Fd} (h:Gs s) (ho:Le f.k f.c f.side=true):Iz s f:=by
 unfold Le at ho;simp only[Bool.and_eq_true,decide_eq_true_eq]at ho;exact⟨h,Ci,ho.1⟩
section
variable {s:St} {f:Fd}
theorem Iz.sp (h:Iz s f) (j:Nat):(Dc f.k f.c j s.l).length≤1024∧Fc (Dc f.k f.c j s.l)≤1024∧(∀x∈Dc f.k f.c j s.l,x.c.ok=true)∧∀x∈Dc f.k f.c j s.l,x.ls.length≤1024:=by
 have hs:=oQ f.k f.c j s.l;exact⟨Br hs.length_le h.gs.len,Br (Ae2 hs) h.gs.tot,λx hx=>(h.gs.at x (hs.subset hx)).1,λx hx=>h.gs.ls x (hs.subset hx)⟩
theorem Iz.rv (h:Iz s f):(Hq (Dc f.k f.c f.side s.l)).length≤1024∧Fc (Hq (Dc f.k f.c f.side s.l))≤1024∧(∀x∈Hq (Dc f.k f.c f.side s.l),x.c.ok=true)∧∀x∈Hq (Dc f.k f.c f.side s.l),x.ls.length≤1024:=by
 obtain⟨h1,h2,h3,h4⟩:=h.sp f.side;refine⟨by rw[An6];exact h1,by rw[Ae1];exact h2,An7 (P:=λc=>c.ok=true) h3,λx hx=>?_⟩;obtain⟨y,hy,rfl⟩:=List.mem_map.1 hx;have:=h4 y hy;simpa using this
theorem Iz.mvd (h:Iz s f) {mv:List Stk} (hm:s.mv f=Af mv):mv.length≤1024∧Fc mv≤1024∧(∀x∈mv,x.c.ok=true)∧∀x∈mv,x.ls.length≤1024:=by
 obtain⟨h1,h2,h3,h4⟩:=h.rv;have hm':Mf (ofL f.k f.c) (Hq (Dc f.k f.c f.side s.l))=Af mv:=hm;obtain⟨k1,k2,k3⟩:=zG hm';exact⟨Ci,Ci,k1,λx hx=>by have:=Lw hx;omega⟩
theorem Iz.up (_h:Iz s f) {l1 l2:List Stk} (a1:l1.length≤1024∧Fc l1≤1024∧(∀x∈l1,x.c.ok=true)∧∀x∈l1,x.ls.length≤1024) (a2:l2.length≤1024∧Fc l2≤1024∧(∀x∈l2,x.c.ok=true)∧∀x∈l2,x.ls.length≤1024):
  (Ev l1 l2).length≤2048∧(∀x∈Ev l1 l2,x.ls.length≤2048)∧∀x∈Ev l1 l2,x.c.q≤255:=by
 refine⟨by have:=uE l1 l2;omega,λx hx=>by have:=zV l1 l2 x hx;omega,λx hx=>?_⟩;exact An2 l1 l2 (λc=>c.q≤255) (λy hy=>mU (a1.2.2.1 y hy)) (λy hy=>mU (a2.2.2.1 y hy)) x hx
theorem Iz.mok (h:Iz s f):(ofL f.k f.c).ok=true:=Aw2 h.okl
theorem Iz.then (h:Iz s f):Gi s.root (ofL f.k f.c)=Pm s.root (ofL f.k f.c):=by
 unfold Gi;rw[h.gs.root,h.mok];rfl
theorem Iz.rtt (h:Iz s f):(s.rt f).1.t≤255:=by
 unfold St.rt
 split
 ·unfold Pm Zt
  split
  ·rename_i hok;have h8:=gV hok;dsimp only at h8⊢;omega
  ·decide
 ·have:=gV h.gs.root;show s.root.t≤255;omega
end
def stZ:List Ak:=[Aa Ab 0,Aa Ab 0,Ad Ae 0 0,Aa Ac 0,Aa Ab 0,Aa Ab 0,Ad Ae 0 0]
def Ap5 (o:Int×Option St) (w:Aj) (e:Ending) (w':Aj):Prop:=Below w.heap.size w w'∧
 ((o.2=Ae∧e= .returned (.tuple #[.agg stZ.toArray,Aa Ab o.1]))∨∃t cs,o.2=Af t∧e= .returned (.tuple #[.agg cs.toArray,Aa Ab o.1])∧Rb w.heap.size w' cs t)
theorem Az5 {s:St} (h:Gs s) (f:Fd):s.do f=s.fold f:=by
 unfold St.do;rw[if_neg (λhh=>hh h.chk)]
theorem Gb {w:Aj} {g:Nat} {a b c d e f h:Ak} {t:TypeId} (hg:w.heap[g]? =Af (Obj.cells #[a,b,c,d,e,f,h] t (0,0))):
  w.cell? ⟨g,0,Ae⟩=Af a∧w.cell? ⟨g,1,Ae⟩=Af b∧w.cell? ⟨g,2,Ae⟩=Af c∧w.cell? ⟨g,3,Ae⟩=Af d∧w.cell? ⟨g,4,Ae⟩=Af e∧w.cell? ⟨g,5,Ae⟩=Af f∧w.cell? ⟨g,6,Ae⟩=Af h:=by
 refine⟨?_,?_,?_,?_,?_,?_,?_⟩<;>(rw[By _ _ _ _ _ (0,0) hg];rfl)
theorem qW {w:Aj} {A:Option Addr} {l:List (Nat×Nat)} {n:Nat} (h:Rd w A 2 n (He l)) (i:Nat) (hi:i<l.length):
  ∃b o,A=Af ⟨b,o,Ae⟩∧b<w.heap.size∧w.cell? ⟨b,o+i*2,Ae⟩=Af (Aa Ab (l[i].1:Int))∧w.cell? ⟨b,o+i*2+1,Ae⟩=Af (Aa Ac (l[i].2:Int)):=by
 have hl:=h.1;rw[oY]at hl;obtain⟨b,o,e,hb,hc⟩:=h.2 Ci;have hat:∀f,f<2→(He l)[i*2+f]? =(jR l[i])[f]? :=λf hf=>Dz jR 2 (λ_=>rfl) _ i f hi hf;exact⟨b,o,e,hb,hc (i*2+0) _ ((hat 0 Ci).trans rfl),hc (i*2+1) _ ((hat 1 Ci).trans rfl)⟩
def Vc (s:St) (K C:Int):List Nat:=(Df s.a s.b s.cr s.root).1.2.map (Dy K C)
def wC (l:List (Nat×Nat)) (ss:List Nat) (w:Aj) (e:Ending) (w':Aj):Prop:=
 ∃A cA B,e= .returned (.tuple #[Ad A l.length cA,Ad B ss.length ss.length,Aa Ab 0])∧Rd w' A 2 l.length (He l)∧Rd w' B 1 ss.length (Di ss)∧Below w.heap.size w w'
def zY (s:St) (K C:Int) (u:Nat×Nat):Bool:=decide (Dy K C (s.img u.1)≠Dy K C (s.img (nbI s.a s.b u.1 u.2).1.toNat))&&decide (Cx s.cr u.1 u.2=0)
theorem iH (s:St) (K C:Int):Hd s K C=(Fu s.a s.b).filter (zY s K C):=rfl
theorem fK {α:Type} (p:α→Bool) (l:List α) (k:Nat) (h:k<l.length):(l.take (k+1)).filter p=if p l[k]then (l.take k).filter p++[l[k]]else (l.take k).filter p:=by
 rw[Bc h,List.filter_append];by_cases hs:p l[k]=true
 ·simp[hs]
 ·simp[hs]
theorem bP {s:St} (K C:Int) (i:Nat) (hi:i<(Df s.a s.b s.cr s.root).1.2.length):(Vc s K C)[i]? =Af (Dy K C (s.img i)):=by
 unfold Vc St.img;rw[List.getElem?_map,List.getD_eq_getElem?_getD,Aw hi];rfl
theorem vN {l:List Nat} {n k:Nat} (h:l.length=n) (hk:k<n) (v:Nat) (hv:l[k]? =Af v):(l.take k++Ba (n-k) 0).set k v=l.take (k+1)++Ba (n-(k+1)) 0:=by
 have hl:(l.take k).length=k:=by rw[Bm];omega
 rw[List.set_append_right _ _ Ci,hl,Nat.sub_self,show n-k=(n-(k+1))+1 by omega,List.replicate_succ,Cf];rw[List.take_add_one,hv];simp
def Zy (a b:Int) (pA:Option Addr) (pn pc rt:Nat) (rx ry K C:Int) (sv:Ak) (N P G2 G3:Nat) (is:List Cl) (r:List Nat):List (Nat×Array Ak×TypeId):=
 [(N,#[Aa Ab a,Aa Ab b,Ad pA pn pc,Aa Ac rt,Aa Ab rx,Aa Ab ry,sv],33),(P,#[Aa Ac K,Aa Ab C],72),(G2,(Is is).toArray,87),(G3,(Di r).toArray,3)]
theorem nF (s:St) (pA:Option Addr) (pc:Nat) (sv:Ak) (K C:Int) (w:Aj) (hs:Gs s) (hpr:Rd w pA 3 s.cr.length (crs s.cr)) (hL:okL K C=true) (hQ:Qf w) (hT:Tn w) (hsv:sv.oneCell'=true):
  Al Tryz.prog 47 #[.agg #[Aa Ab s.a,Aa Ab s.b,Ad pA s.cr.length pc,Aa Ac s.root.t,Aa Ab s.root.x,Aa Ab s.root.y,sv],.agg #[Aa Ac K,Aa Ab C]] w (wC (Hd s K C) (Vc s K C) w):=by
 have hrt:=gV hs.root;have HIM:=Ah (λ(w':Aj) (hb:Below w.heap.size w w')=>Pz s.a s.b pA s.cr s.cr.length pc s.root w' hs.pat rfl (hpr.below hb) hs.pat.len Ci (hQ.below hb) (hT.below hb));have HUN:=Ah (λ(w':Aj) (hb:Below w.heap.size w w')=>Af1 s.a s.b w' hs.pat.sheet ((hQ.below hb).qt));have HNB:=Ah (λ(w':Aj) (hb:Below w.heap.size w w') (i e:Int) (he:0≤e)=>Fi s.a s.b i e w' hs.pat.sheet he ((hQ.below hb).qt));have HKD:=Ah (λ(w':Aj) (hb:Below w.heap.size w w') (i e:Nat) (hu:isU s.a s.b i e=true) (hi:i<1024) (he:e<3)=>qJ s.a s.b pA s.cr s.cr.length pc i e i w' rfl (hpr.below hb) hs.pat ((hQ.below hb).qt) (gC hu) Ci Ci);have HSD:=Ah (λ(w':Aj) (hb:Below w.heap.size w w') (c:Cl) (hc:c.ok=true)=>Vi K C c w' hL hc (hQ.below hb));have hbo:=hs.both;obtain⟨-,hil,-,hiok⟩:=Jc hbo;have HSG:=Ah (λ(i:Nat) hi=>bP (s:=s) K C i hi);have HPE:=iH s K C;have HPU:=Ah (λ(u:Nat×Nat)=>show zY s K C u=(decide (Dy K C (s.img u.1)≠Dy K C (s.img (nbI s.a s.b u.1 u.2).1.toNat))&&decide (Cx s.cr u.1 u.2=0))from rfl);have HUB:=Ah (λ(u:Nat×Nat) (h:u∈Fu s.a s.b)=>Vg hs.pat.sheet h)
 have HNL:=Ah (λ(u:Nat×Nat) (h:isU s.a s.b u.1 u.2=true)=>show 0≤(nbI s.a s.b u.1 u.2).1∧(nbI s.a s.b u.1 u.2).1.toNat<Cq s.a s.b∧(nbI s.a s.b u.1 u.2).2=0 by
  unfold isU at h;simp only[Bool.and_eq_true,decide_eq_true_eq]at h;have h1:=Yl hs.pat.sheet h.1;have h2:=(Gn hs.pat.sheet).1;exact⟨h1.1,Ci,h.1⟩)
 have HCI:=Gn hs.pat.sheet;have HSE:=Ah (show Vc s K C=(Df s.a s.b s.cr s.root).1.2.map (Dy K C)from rfl);rw[HPE];clear HPE;obtain⟨cnt,hcnt⟩:=ey (Cq s.a s.b);have HUM:=Ah (λ(u:Nat×Nat) (h:u∈Fu s.a s.b)=>(Ij h).2.1);unfold Fu at HUM;rw[hcnt]at hil HNL HCI;obtain⟨PU,hPU⟩:=ey (zY s K C);rw[hPU]at HPU⊢;obtain⟨SS,hSS⟩:=ey (Vc s K C);rw[hSS]at HSG HSE⊢;obtain⟨⟨⟨ms,is⟩,er⟩,hbF⟩:∃z,Df s.a s.b s.cr s.root=z:=⟨_,rfl⟩;rw[hbF]at HIM hbo hil hiok HSG HSE;dsimp only at HIM hbo hil hiok HSG HSE;subst hbo;rw[hil]at HIM HSG;obtain⟨a,b,cr,root,sl⟩:=s;obtain⟨rt,rx,ry⟩:=root;dsimp only at*;obtain⟨US,hUS⟩:=ey (Fu a b)
 have hUM2:∀u∈US,3*u.1+u.2<3*cnt:=λu hu=>by
  have:=HUM.out u (by unfold Fu at hUS;rw[hUS];exact hu);rw[hcnt]at this;exact this
 have HUM2:=Ah hUM2;rw[hUS]at HUN HUB⊢;obtain⟨pn,hpn⟩:=ey cr.length;rw[hpn]at HIM HKD⊢;have H:=((Bx.start w).new #[Aa Ab a,Aa Ab b,Ad pA pn pc,Aa Ac rt,Aa Ab rx,Aa Ab ry,sv] 33 rfl).new #[Aa Ac K,Aa Ab C] 72 (N:=w.heap.size+1) Cn
 have HUL:Hid (US.length≤3072):=Ah (by
  have h1:=Mm a b (3*Cq a b);rw[hcnt]at h1;unfold Fu at hUS;rw[hcnt,]at hUS;rw[←hUS];omega)
 have HIL:=Ah hil;have HIO:=Ah hiok;have HCN:=Ah HCI;have HSV:=Ah hsv;clear HCI hs hpr hQ hT hrt hUM2 HUM hUS hpn hil hiok hcnt hPU hSS hbF hsv;go_enter Tryz.func47,Tryz.ntmps47;go_upto_region 1 with fail;obtain⟨N,hN⟩:=ez w.heap.size;rw[←hN]at H⊢;have HNN:=Ah hN;clear hN;obtain⟨P,hP⟩:=ey (N+1);rw[hP]at H⊢;clear hP;obtain⟨W1,hW1⟩:=ez ((w.alloc (.cells #[Aa Ab a,Aa Ab b,Ad pA pn pc,Aa Ac rt,Aa Ab rx,Aa Ab ry,sv] 33)).alloc (.cells #[Aa Ac K,Aa Ab C] 72));rw[←hW1]at H⊢;clear hW1;obtain⟨a0,a1,a2,a3,a4,a5,a6⟩:=Gb (H.blk 0 _ _ _ rfl);go_wp2_with fail;refine(HIM.out _ H.below).mono ?_;rintro ee w2 ⟨hb,⟨h0,-⟩|⟨-,G2,rfl,hge,hG2⟩⟩
 ·exact absurd rfl h0
 have H2:=H.join hb hge hG2;clear a0 a1 a2 a3 a4 a5 a6 hb hge hG2 H HIM;obtain⟨hc1,hc2,hc3⟩:=HCN.out;have hmk:=Sz cnt hc3 w2;obtain⟨G3,hG3⟩:=ey w2.heap.size;have H3:=H2.new (Di (Ba cnt 0)).toArray 3 hG3;rw[hG3]at hmk;clear H2 hc1 hc2 hc3;go_upto_region 5 with fail
 try rw[hG3]
 obtain⟨W4,hW4⟩:=ez (w2.alloc (.cells (Di (Ba cnt 0)).toArray 3));rw[←hW4]at H3⊢;clear hW4;have HL0:Hid (Bx w (Zy a b pA pn pc rt rx ry K C sv N P G2 G3 is (SS.take 0++Ba (cnt-0) 0)) W4):=Ah H3;have HSL:Hid (SS.length=cnt):=Ah (by rw[HSE.out,Bo,HIL.out]);have HSM:Hid (∀(i:Nat) (h:i<is.length),SS[i]? =Af (Dy K C is[i])):=Ah λi h=>by rw[HSE.out,List.getElem?_map,Aw h];rfl
 clear hmk hG3 H3;have hcb:cnt≤1024:=HCN.out.2.2;have hnb:US.length≤3072:=HUL.out;go_wp2
 go_loopw [36] (λs36 wr=>∃k:Nat,k≤cnt∧s36= Aa Ab k∧Hid (Bx w (Zy a b pA pn pc rt rx ry K C sv N P G2 G3 is (SS.take k++Ba (cnt-k) 0)) wr)) (λs36 _=>cnt-(intOf s36).toNat)
 case atStart=>exact⟨0,Ci,rfl,HL0⟩
 case round=>
  obtain⟨k,hk,rfl,HH⟩:=hrel;clear HL0;by_cases hlt:k<cnt
  ·have q0:(k:Int)<(cnt:Int):=Ci;have hil:k<is.length:=by have:=HIL.out;omega
   obtain⟨b9,o9,e9,-,d0,d1,d2⟩:=Aa5 (Oc (HH.out.blk 2 _ _ _ rfl) (Jn is)) k hil;obtain⟨rfl,rfl⟩:G2=b9∧0=o9:=by simpa using e9
   rw[Bt]at d0 d1 d2;have hok:=HIO.out is[k] (Ay hil);have hss:=HSM.out k hil;obtain⟨⟨x0,x1,x2⟩,hx⟩:=ey (is[k]);rw[hx]at d0 d1 d2 hok hss;dsimp only at d0 d1 d2;obtain⟨sd,hsd⟩:=ey (Dy K C ⟨x0,x1,x2⟩);have HSD2:=Ah (λ(w':Aj) (hb:Below w.heap.size w w')=>HSD.out w' hb ⟨x0,x1,x2⟩ hok);rw[hsd]at HSD2 hss;dsimp only at HSD2;have hfill:=vN HSL.out hlt sd hss;have HFL:=Ah hfill;obtain⟨X,hX⟩:=ey wr.heap.size;have H:=HH.out.new #[Aa Ab x0,Aa Ab x1,Aa Ac x2] 87 hX;clear hx hsd hok hss hfill;go_upto_region 8 with fail
   try rw[hX]
   obtain⟨W5,hW5⟩:=ez (wr.alloc (.cells #[Aa Ab x0,Aa Ab x1,Aa Ac x2] 87));rw[←hW5]at H⊢;clear hW5;clear d0 d1 d2 hX;obtain⟨⟨e0,e1,e2⟩,-⟩:=Cv (H.blk 4 _ _ _ rfl);obtain⟨⟨b0,b1⟩,-⟩:=Cy (H.blk 1 _ _ _ rfl);go_wp2_with fail;refine(HSD2.out _ H.below).mono ?_;rintro ee w6 ⟨rfl,hb⟩;have H6:=H.call hb;clear e0 e1 e2 b0 b1 hb H HSD2;have hg3:=H6.blk 3 _ _ _ rfl;have hfz:w6.frozen? ⟨G3,k,Ae⟩=false:=by simp[World.frozen?,hg3]
   have hcl:∃u,w6.cell? ⟨G3,k,Ae⟩=Af u:=by
    refine⟨_,(By w6 G3 k _ _ (0,0) hg3).trans (Array.getElem?_eq_getElem (i:=k) ?_)⟩;have:=HSL.out;simp[Di];omega
   obtain⟨u9,hcl⟩:=hcl;have H7:=H6.set 3 k rfl (Aa Ab sd);rw[qC,HFL.out]at H7;have HR:Hid (Bx w (Zy a b pA pn pc rt rx ry K C sv N P G2 G3 is (SS.take (k+1)++Ba (cnt-(k+1)) 0)) (w6.setCell ⟨G3,k,Ae⟩ (Aa Ab (sd:Int)))):=Ah (H7.upto 4);clear hg3 H6 H7;go_wp2;exact⟨⟨k+1,Ci,by go_num,HR⟩,by simp[intOf];omega⟩
  ·obtain rfl:k=cnt:=Ci;obtain⟨cnt,rfl⟩:=ez k;have q0:¬(cnt:Int)<(cnt:Int):=Ci;obtain⟨WY,rfl⟩:=ez wr
   have hSS:SS.take cnt++Ba (cnt-cnt) 0=SS:=by
    rw[Nat.sub_self,List.replicate_zero,List.append_nil,Bg (by have:=HSL.out;omega)]
   have H:=HH.out;rw[hSS]at H;clear hSS HH;obtain⟨a0,a1,a2,a3,a4,a5,a6⟩:=Gb (H.blk 0 _ _ _ rfl);go_wp2_with fail;refine(HUN.out _ H.below).mono ?_;rintro ee w5 ⟨AU,rfl,hrow,hb⟩;have H5:=H.call hb;clear a0 a1 a2 a3 a4 a5 a6 hb H HUN;obtain⟨nu,hnu⟩:=ey US.length;rw[hnu]at hrow⊢;obtain⟨O,hO⟩:=ey w5.heap.size;have HUR:=Ah (λ(wr:Aj) (hb:Below O w5 wr)=>show Rd wr AU 2 nu (He US)from hrow.rd.below (by rw[hO];exact hb));have HL0:Hid (Bx w (Zy a b pA pn pc rt rx ry K C sv N P G2 G3 is SS) w5∧O≤w5.heap.size∧Below O w5 w5∧((US.take 0).filter PU).length=0∧w5.ownsRow O 126 2 (Ad Ae 0 0) 0 (He ((US.take 0).filter PU))):=Ah ⟨H5,Ci,Ag _ _,rfl,⟨rfl,.inl ⟨rfl,rfl⟩⟩⟩;have HNU:=Ah hnu;have hnub:nu≤3072:=Ci
   have HLO:Hid (∀x∈Zy a b pA pn pc rt rx ry K C sv N P G2 G3 is SS,x.1<O):=Ah (by
    intro x hx;obtain⟨i,hi,rfl⟩:=Be.1 hx;rw[←hO];exact H5.lt i (Aw hi))
   have HWO:Hid (w.heap.size≤O):=Ah (by have:=H5.below.size;omega);clear hrow hnu hO H5;go_wp2
   go_loopw [66,13] (λs66 s13 wr=>∃(k2 m9 c9:Nat) (A9:Option Addr),k2≤nu∧s66= Aa Ab k2∧s13= Ad A9 m9 c9∧m9≤k2∧Hid (Bx w (Zy a b pA pn pc rt rx ry K C sv N P G2 G3 is SS) wr∧O≤wr.heap.size∧Below O w5 wr∧((US.take k2).filter PU).length=m9∧wr.ownsRow O 126 2 (Ad A9 m9 c9) m9 (He ((US.take k2).filter PU)))) (λs66 _ _=>nu-(intOf s66).toNat)
   case atStart=>exact⟨0,0,0,Ae,Ci,rfl,rfl,Am _,HL0⟩
   case round=>
    obtain⟨k2,m9,c9,A9,hk2,rfl,rfl,hm9,HZ⟩:=hrel;clear HL0;by_cases hlt:k2<nu
    ·have q0:(k2:Int)<(nu:Int):=Ci;have hul:k2<US.length:=by have:=HNU.out;omega
     obtain⟨hB,hO,hb5,hml,hown⟩:=HZ.out;obtain⟨bu,ou,hAU,-,d0,d1⟩:=qW (HUR.out _ hb5) k2 hul;obtain⟨he3,hi1,hiu⟩:=HUB.out US[k2] (Ay hul);have hi3:=HUM2.out US[k2] (Ay hul);have hnl:=HNL.out US[k2] hiu;have hfs:=fK PU US k2 hul;have hpu:=HPU.out US[k2];obtain⟨⟨i,e⟩,hu⟩:=ey (US[k2]);rw[hu]at d0 d1 he3 hi1 hiu hi3 hnl hfs hpu;dsimp only at d0 d1 he3 hi1 hiu hi3 hnl hpu;have hic:i<cnt:=Ci;obtain⟨hn0,hnc,hne⟩:=hnl;have hnb:=λ(w':Aj) (hb:Below w.heap.size w w')=>HNB.out w' hb i e Ci;obtain⟨⟨nn,ne⟩,hnn⟩:=ey (nbI a b (i:Int) (e:Int));rw[hnn]at hn0 hnc hne hnb hpu;dsimp only at hn0 hnc hne hpu;subst hne;unfold Zs at hnb;dsimp only at hnb;obtain⟨n,rfl⟩:∃n:Nat,nn=(n:Int):=⟨nn.toNat,Ci⟩;rw[Int.toNat_natCast]at hnc hpu;have HSI:=HSG.out i hic;have HSN:=HSG.out n hnc;obtain⟨s1,hs1⟩:=ey (Dy K C (St.img ⟨a,b,cr,⟨rt,rx,ry⟩,sl⟩ i));obtain⟨s2,hs2⟩:=ey (Dy K C (St.img ⟨a,b,cr,⟨rt,rx,ry⟩,sl⟩ n));rw[hs1]at HSI hpu;rw[hs2]at HSN hpu;have HKN:=Ah (λ(w':Aj) (hb:Below w.heap.size w w')=>HKD.out w' hb i e hiu hi1 he3);obtain⟨kk,hkk⟩:=ey (Cx cr (i:Int) (e:Int));rw[hkk]at HKN hpu;have HNBR:=Ah hnb;have HFS:=Ah hfs;have HPW:=Ah hpu;have HOW:=Ah hown;have HML:=Ah hml;have HB5:=Ah hb5;have HO2:=Ah hO;have q1:(i:Int)<(cnt:Int):=Ci;have q2:(n:Int)<(cnt:Int):=Ci
     have hmc:m9≤3072:=by
      have h1:=HUL.out;omega
     obtain⟨X,hX⟩:=ey wr.heap.size;have H:=hB.new #[Aa Ab (i:Int),Aa Ac (e:Int)] 126 hX;subst hAU;clear hnn hn0 hnc hs1 hs2 hkk hnb hfs hpu hown hml hb5 hO hB hu hul hi3 hiu hic HZ;have hbq:=(Ag wr.heap.size wr).alloc (Am _) (.cells #[Aa Ab (i:Int),Aa Ac (e:Int)] 126);go_upto_region 19 with fail
     try rw[hX]
     obtain⟨W6,hW6⟩:=ez (wr.alloc (.cells #[Aa Ab (i:Int),Aa Ac (e:Int)] 126));rw[←hW6]at H hbq⊢;clear hW6;clear d0 d1;obtain⟨⟨x0,x1⟩,-⟩:=Cy (H.blk 4 _ _ _ rfl);obtain⟨a0,a1,a2,a3,a4,a5,a6⟩:=Gb (H.blk 0 _ _ _ rfl);go_wp2_with fail;refine(HNBR.out _ H.below).mono ?_;rintro ee w7 ⟨rfl,hb⟩;have H7:=H.call hb;have hbq7:=hbq.trans (hb.mono hbq.size);clear x0 x1 a0 a1 a2 a3 a4 a5 a6 hb H hbq HNBR;obtain⟨⟨x0,x1⟩,-⟩:=Cy (H7.blk 4 _ _ _ rfl);have hrS:=Oc (H7.blk 3 _ _ _ rfl) (show(Di SS).length=cnt*1 by rw[Ha,HSL.out,Nat.mul_one]);obtain⟨b9,o9,e9,-,y1⟩:=Mi hrS i (by rw[HSL.out];omega);obtain⟨rfl,rfl⟩:G3=b9∧0=o9:=by simpa using e9
     obtain⟨b8,o8,e8,-,y2⟩:=Mi hrS n (by rw[HSL.out];omega);obtain⟨rfl,rfl⟩:G3=b8∧0=o8:=by simpa using e8
     have hs1:SS[i]'(by rw[HSL.out];omega)=s1:=by
      have:=HSI;rw[Aw (by rw[HSL.out];omega)]at this;simpa using this
     have hs2:SS[n]'(by rw[HSL.out];omega)=s2:=by
      have:=HSN;rw[Aw (by rw[HSL.out];omega)]at this;simpa using this
     rw[hs1,Bt]at y1;rw[hs2,Bt]at y2;clear hrS e9 e8 hs1 hs2 HSI HSN;by_cases hse:s1=s2
     ·subst hse
      have hF:(US.take (k2+1)).filter PU=(US.take k2).filter PU:=by
       rw[HFS.out,HPW.out];simp
      have HR:Hid (∀q,Bx w (Zy a b pA pn pc rt rx ry K C sv N P G2 G3 is SS) (w7.drewN q)∧O≤(w7.drewN q).heap.size∧Below O w5 (w7.drewN q)∧((US.take (k2+1)).filter PU).length=m9∧(w7.drewN q).ownsRow O 126 2 (Ad A9 m9 c9) m9 (He ((US.take (k2+1)).filter PU))):=Ah (λq=>by
       rw[hF];exact⟨(H7.upto 4).drewN q,Br HO2.out hbq7.size,Dg (HB5.out.trans (hbq7.mono HO2.out)) q,HML.out,Dj HOW.out (Am _) (Dg hbq7 q)⟩)
      clear hF;go_upto_region 20 with fail
      go_quiet (fail)
      go_wp2;exact⟨⟨k2+1,m9,c9,A9,Ci,by go_num,rfl,Ci,Ah (HR.out _)⟩,by simp[intOf];omega⟩
     ·have hse2:((s1:Int)==(s2:Int))=false:=by rw[beq_eq_false_iff_ne];omega
      go_upto_region 20 with fail
      go_quiet (fail)
      have H8:=H7.drewN nq;have hbq8:=Dg hbq7 nq;obtain⟨W8,hW8⟩:=ez (w7.drewN nq);rw[←hW8]at H8 hbq8⊢;clear hW8 H7 hbq7 x0 x1 y1 y2;obtain⟨⟨x0,x1⟩,-⟩:=Cy (H8.blk 4 _ _ _ rfl);obtain⟨a0,a1,a2,a3,a4,a5,a6⟩:=Gb (H8.blk 0 _ _ _ rfl);go_wp2_with fail;refine(HKN.out _ H8.below).mono ?_;rintro ee w9 ⟨rfl,hb⟩;have H9:=H8.call hb;have hbq9:=hbq8.trans (hb.mono hbq8.size);clear x0 x1 a0 a1 a2 a3 a4 a5 a6 hb H8 hbq8 HKN;obtain⟨⟨x0,x1⟩,-⟩:=Cy (H9.blk 4 _ _ _ rfl);have hO9:O≤w9.heap.size:=Br HO2.out hbq9.size;have hown9:=Dj HOW.out (Am _) hbq9;have hb59:=HB5.out.trans (hbq9.mono HO2.out);have hB9:Bx w (Zy a b pA pn pc rt rx ry K C sv N P G2 G3 is SS) w9:=H9.upto 4;by_cases hk0:kk=0
      ·subst hk0
       have hF:(US.take (k2+1)).filter PU=(US.take k2).filter PU++[(i,e)]:=by
        rw[HFS.out,HPW.out];simp[hse]
       obtain⟨A',c',w10,hrun,ho10,hb10,hg10,hO10,-⟩:=Zo (sl:=139) Tryz.underlying139 Xy rfl Ct Ct w9 O m9 (Ad A9 m9 c9) _ hown9 hO9 Ci [Aa Ab (i:Int),Aa Ac (e:Int)] rfl (by simp[Value.oneCell']);have HRUN:=Ah hrun
       have HR:Hid (Bx w (Zy a b pA pn pc rt rx ry K C sv N P G2 G3 is SS) w10∧O≤w10.heap.size∧Below O w5 w10∧((US.take (k2+1)).filter PU).length=m9+1∧w10.ownsRow O 126 2 (Ad A' (m9+1) c') (m9+1) (He ((US.take (k2+1)).filter PU))):=Ah (by
        rw[hF,Vy];exact⟨hB9.keepN HLO.out HWO.out hb10,hO10,hb59.trans hb10,by rw[Bh,HML.out];rfl,ho10⟩)
       clear hrun ho10 hb10 hg10 hO10 hF hown9 hO9 hb59 hB9 H9 hbq9;go_wp2_with (at_builtin;refine As _ rfl _ _ _ _ rfl _ _ rfl rfl _ _ HRUN.out ?_);go_wp2;exact⟨⟨k2+1,m9+1,c',A',Ci,by go_num,rfl,Ci,HR⟩,by simp[intOf];omega⟩
      ·have hF:(US.take (k2+1)).filter PU=(US.take k2).filter PU:=by
        rw[HFS.out,HPW.out];simp[hk0]
       have hk2:(kk==0)=false:=by simpa using hk0
       have HR:Hid (Bx w (Zy a b pA pn pc rt rx ry K C sv N P G2 G3 is SS) w9∧O≤w9.heap.size∧Below O w5 w9∧((US.take (k2+1)).filter PU).length=m9∧w9.ownsRow O 126 2 (Ad A9 m9 c9) m9 (He ((US.take (k2+1)).filter PU))):=Ah (by
        rw[hF];exact⟨hB9,hO9,hb59,HML.out,hown9⟩)
       clear hF hown9 hO9 hb59 hB9 H9 hbq9;go_wp2;exact⟨⟨k2+1,m9,c9,A9,Ci,by go_num,rfl,Ci,HR⟩,by simp[intOf];omega⟩
    ·obtain rfl:k2=nu:=Ci;have q0:¬(k2:Int)<(k2:Int):=Ci;obtain⟨hB,hO,hb5,hml,hown⟩:=HZ.out;have ht:US.take k2=US:=Bg (by have:=HNU.out;omega);rw[ht]at hml hown;have hrS:=Oc (hB.blk 3 _ _ _ rfl) (show(Di SS).length=cnt*1 by rw[Ha,HSL.out,Nat.mul_one]);have HFIN:Hid (wC (US.filter PU) SS w (.returned (.tuple #[Ad A9 m9 c9,Ad (Af ⟨G3,0,Ae⟩) cnt cnt,Aa Ab 0])) wr):=Ah ⟨A9,c9,Af ⟨G3,0,Ae⟩,by rw[hml,HSL.out],by rw[hml];exact Rd.of_own hown,by rw[HSL.out];exact hrS,hB.below⟩;clear hB hO hb5 hml hown ht hrS HZ;go_wp2_with fail;refine Ai (v:= .tuple #[Ad A9 m9 c9,Ad (Af ⟨G3,0,Ae⟩) cnt cnt,Aa Ab 0]) (by simp[results,Tryz.results47,go_sem]) rfl ?_;exact HFIN.out
theorem lD (id Ub Fb:Nat) (U:Option Addr) (nu cu:Nat) (up:List Bool) (over:Bool) (w:Aj) (hn:nu=up.length) (h:Rd w U 1 nu (De up)) (hid:id<nu) (hU:w.cell? ⟨Ub,0,Ae⟩=Af (Ad U nu cu)) (hF:w.cell? ⟨Fb,3,Ae⟩=Af (.bool over)):
  Al Tryz.prog 54 #[Aa Ab (id:Int),.pointer (Af ⟨Ub,0,Ae⟩),.pointer (Af ⟨Fb,0,Ae⟩)] w (Co (Aa Ac (if up.getD id false=over then 2 else 1)) w):=by
 obtain⟨b,o,rfl,hbl,u0⟩:=qU h id Ci
 have hg:up.getD id false=up[id]'(by omega):=by
  rw[List.getD_eq_getElem?_getD,Aw Ci];rfl
 rw[hg];obtain⟨v,hv⟩:=ey (up[id]'(by omega));rw[hv]at u0⊢;obtain⟨R,hR⟩:∃z:Int,(if v=over then 2 else 1)=z:=⟨_,rfl⟩;rw[hR];have HR:=Ah hR;have q0:(id:Int)<(nu:Int):=Ci;obtain⟨S,hSd⟩:∃S:Aj→Prop,S=λW'=>W'.cell? ⟨Ub,0,Ae⟩=Af (Ad (Af ⟨b,o,Ae⟩) nu cu)∧W'.cell? ⟨b,o+id,Ae⟩=Af (.bool v)∧W'.cell? ⟨Fb,3,Ae⟩=Af (.bool over):=⟨_,rfl⟩;have HSO:Hid (∀W',S W'→W'.cell? ⟨Ub,0,Ae⟩=Af (Ad (Af ⟨b,o,Ae⟩) nu cu)∧W'.cell? ⟨b,o+id,Ae⟩=Af (.bool v)∧W'.cell? ⟨Fb,3,Ae⟩=Af (.bool over)):=Ah λW' h=>by subst hSd;exact h
 have hS0:Hid (S w.drew):=Ah (by subst hSd;exact⟨hU,u0,hF⟩);have hbw:Hid (Below w.heap.size w w.drew):=Ah (Ag _ _).drew;clear hn h hid hU hF hg hv hR hSd u0 hbl;go_enter Tryz.func54,Tryz.ntmps54;go_upto_region 1 with fail;refine Ao (S:=S) Cm hS0.out (λhS=>?_);obtain⟨X0,hX0⟩:=ez w.drew;rw[←hX0]at hS hbw⊢;clear hX0
 cases v<;>cases over
 ·refine Ck 0 ?_;refine Ck 1 ?_;refine Ck 2 ?_;refine Ck 3 ?_;refine Ck 4 ?_;refine Ck 5 ?_;refine Ck 6 ?_;refine An Cm ?_ _;have hRR:R=2:=by rw[←HR.out];rfl
  subst hRR;go_wp2;go_ret;exact⟨rfl,hbw⟩
 ·refine Ck 0 ?_;refine Ck 1 ?_;refine Ck 2 ?_;refine Ck 3 ?_;refine Ck 4 ?_;refine Ck 5 ?_;refine Ck 6 ?_;refine An Cm ?_ _;have hRR:R=1:=by rw[←HR.out];rfl
  subst hRR;go_wp2;go_ret;exact⟨rfl,hbw⟩
 ·refine Ck 0 ?_;refine Ck 1 ?_;refine Ck 2 ?_;refine Ck 3 ?_;refine Ck 4 ?_;refine Ck 5 ?_;refine Ck 6 ?_;refine An Cm ?_ _;have hRR:R=1:=by rw[←HR.out];rfl
  subst hRR;go_wp2;go_ret;exact⟨rfl,hbw⟩
 ·refine Ck 0 ?_;refine Ck 1 ?_;refine Ck 2 ?_;refine Ck 3 ?_;refine Ck 4 ?_;refine Ck 5 ?_;refine Ck 6 ?_;refine An Cm ?_ _;have hRR:R=2:=by rw[←HR.out];rfl
  subst hRR;go_wp2;go_ret;exact⟨rfl,hbw⟩
end Go.Proofs.YthpcfeifmdbhnaaGreatDoor
namespace Go.Proofs.YthpcfeifmdbhnaaGreatDoor
open Go.RowKit Go.Sort
theorem Bx.grown {w wr w':Aj} {l:List (Nat×Array Ak×TypeId)} {row:Option Nat} (h:Bx w l wr) (hg:wr.grownBy w' row) (hn:∀x∈l,row≠Af x.1) (hlo:∀g,row=Af g→w.heap.size≤g):Bx w l w':=
 ⟨h.below.grown hg h.below.size hlo,λi g cs t hi=>(hg.block g (h.lt i hi) (Ne.symm (hn _ (List.mem_of_getElem? hi)))).trans (h.blk i g cs t hi),h.lo,h.inj⟩
theorem Rp {w:Aj} {O e sz n g:Nat} {v:Ak} {xs:List Ak} {cs:Array Ak} {t:TypeId} (h:w.ownsRow O e sz v n xs) (hg:w.heap[g]? =Af (Obj.cells cs t (0,0))) (hne:t≠e):v.ownBlock≠Af g:=Ne.symm (Qp hg hne h)
def csL (a b:Int) (pA:Option Addr) (pn pc N R T:Nat) (v:Ak):List (Nat×Array Ak×TypeId):=
 [(N,#[Aa Ab a,Aa Ab b,Ad pA pn pc],28),(R,#[Aa Ab 0,Aa Ab 0,Ad Ae 0 0],28),(T,#[Aa Ab a,Aa Ab b,v],28)]
structure CsI (w:Aj) (L:Ak→List (Nat×Array Ak×TypeId)) (wr:Aj) (m:Nat) (xs:List Ak) (A:Option Addr) (c:Nat):Prop where
 bx:Bx w (L (Ad A m c)) wr
 own:wr.ownsRow w.heap.size 124 3 (Ad A m c) m xs
theorem CsI.below {w wr w':Aj} {L:Ak→List (Nat×Array Ak×TypeId)} {m c:Nat} {xs:List Ak} {A:Option Addr} (h:CsI w L wr m xs A c) (hb:Below wr.heap.size wr w'):CsI w L w' m xs A c:=⟨h.bx.call hb,Dj h.own (Am _) hb⟩
theorem Aq2 {w wr:Aj} {a b:Int} {pA:Option Addr} {pn pc N R T m c:Nat} {xs:List Ak} {A:Option Addr} (h:CsI w (csL a b pA pn pc N R T) wr m xs A c):∀x∈csL a b pA pn pc N R T (Ad A m c),Value.ownBlock (Ad A m c)≠Af x.1:=by
 intro x hx;have h0:=h.bx.blk 0 _ _ _ rfl;have h1:=h.bx.blk 1 _ _ _ rfl;have h2:=h.bx.blk 2 _ _ _ rfl;simp only[csL,Bk,List.not_mem_nil,or_false]at hx;rcases hx with rfl|rfl|rfl
 ·exact Rp h.own h0 Ct
 ·exact Rp h.own h1 Ct
 ·exact Rp h.own h2 Ct
theorem pT {w wr Y:Aj} {a b:Int} {pA:Option Addr} {pn pc N R T m c:Nat} {xs:List Ak} {A:Option Addr} (h:CsI w (csL a b pA pn pc N R T) wr m xs A c) (hb:Below wr.heap.size wr Y) (hm:m≤1000000) (i e k:Int):
  ∃A' c' w8,(Builtin.append_ #[26,26] 26 #[Ad A m c,Ad (Af ⟨Y.heap.size,0,Ae⟩) 1 1]).run Tryz.prog (Y.alloc (.cells #[Aa Ab i,Aa Ac e,Aa Ac k] 124))= .ok (Ad A' (m+1) c') w8∧
   (w8.frozen? ⟨T,2,Ae⟩=false∧w8.cell? ⟨T,2,Ae⟩=Af (Ad A m c))∧(∀X,wr.heap.size≤X→X<Y.heap.size→w8.heap[X]? =Y.heap[X]? ∧(w8.setCell ⟨T,2,Ae⟩ (Ad A' (m+1) c')).heap[X]? =Y.heap[X]?)∧
   CsI w (csL a b pA pn pc N R T) (w8.setCell ⟨T,2,Ae⟩ (Ad A' (m+1) c')) (m+1) (xs++[Aa Ab i,Aa Ac e,Aa Ac k]) A' c':=by
 have hY:=h.below hb;obtain⟨A',c',w8,hrun,ho,-,hg,hM,-,-,hfr⟩:=Zo (sl:=26) Tryz.underlying26 yF rfl Ct Ct Y w.heap.size m (Ad A m c) xs hY.own hY.bx.below.size Ci [Aa Ab i,Aa Ac e,Aa Ac k] rfl (by simp[Value.oneCell']);have hlo:∀g,Value.ownBlock (Ad A m c)=Af g→w.heap.size≤g:=λg hg=>(hY.own.lt g hg).1;have H8:=hY.bx.grown hg (Aq2 hY) hlo;obtain⟨⟨-,-,t2⟩,-,-,f2⟩:=Cv (H8.blk 2 _ _ _ rfl);have hT8:=H8.blk 2 _ _ _ rfl
 have hX:∀X,wr.heap.size≤X→X<Y.heap.size→w8.heap[X]? =Y.heap[X]? :=λX h1 h2=>hg.block X h2 λe=>by
  have:=(h.own.lt X e.symm).2;omega
 have hTr:=h.bx.lt 2 rfl
 exact⟨A',c',w8,hrun,⟨f2,t2⟩,λX h1 h2=>⟨hX X h1 h2,(Below.heap_setCell w8 ⟨T,2,Ae⟩ _ X (by show X≠T;omega)).trans (hX X h1 h2)⟩,H8.set 2 2 rfl _,Dr ho λg hgv=>Below.heap_setCell w8 ⟨T,2,Ae⟩ _ g (by
  show g≠T;intro e;subst e;exact Rp ho hT8 Ct hgv)⟩
theorem pS {w wr:Aj} {a b:Int} {pA:Option Addr} {pn pc N R T c:Nat} {xs:List Ak} {A:Option Addr} (h:Bx w [(N,#[Aa Ab a,Aa Ab b,Ad pA pn pc],28),(R,#[Aa Ab 0,Aa Ab 0,Ad Ae 0 0],28),(T,#[Aa Ab 0,Aa Ab 0,Ad Ae 0 0],28)] wr)
  (ho:wr.ownsRow w.heap.size 124 3 (Ad A pn c) pn xs):CsI w (csL a b pA pn pc N R T) (((wr.setCell ⟨T,0,Ae⟩ (Aa Ab a)).setCell ⟨T,1,Ae⟩ (Aa Ab b)).setCell ⟨T,2,Ae⟩ (Ad A pn c)) pn xs A c:=by
 have hT:=h.blk 2 _ _ _ rfl
 have hne:∀g,Value.ownBlock (Ad A pn c)=Af g→g≠T:=λg hg e=>by
  subst e;exact Rp ho hT Ct hg
 refine⟨((h.set 2 0 rfl (Aa Ab a)).set 2 1 rfl (Aa Ab b)).set 2 2 rfl (Ad A pn c),Dr ho λg hg=>?_⟩;rw[Below.heap_setCell _ ⟨T,2,Ae⟩ _ g (hne g hg),Below.heap_setCell _ ⟨T,1,Ae⟩ _ g (hne g hg),Below.heap_setCell _ ⟨T,0,Ae⟩ _ g (hne g hg)]
def vZ (a b:Int) (l:List Cr) (w:Aj) (e:Ending) (w':Aj):Prop:=
 ∃A c,e= .returned (.agg #[Aa Ab a,Aa Ab b,Ad A l.length l.length])∧AOk A l.length l.length∧w'.ownsRow w.heap.size 124 3 (Ad A l.length c) l.length (crs l)∧Below w.heap.size w w'
theorem mP (l:List (Nat×Nat)) (kf:Nat→Int) (k:Nat) (h:k<l.length):Hg (l.take (k+1)) kf=Hg (l.take k) kf++[⟨l[k].1,l[k].2,kf l[k].1⟩]:=by
 unfold Hg;rw[Bc h,List.map_append];rfl
theorem pQ (l1 l2:List Cr):crs (l1++l2)=crs l1++crs l2:=by simp[crs]
theorem fB (a b:Int) (pA:Option Addr) (cr:List Cr) (pn pc:Nat) (AL:Option Addr) (l:List (Nat×Nat)) (nl cl U F:Nat) (kf:Nat→Int) (w:Aj) (hpn:pn=cr.length) (hpA:AOk pA pn pc) (hpr:Rd w pA 3 pn (crs cr)) (hpl:pn≤300000)
  (hnl:nl=l.length) (hl:Rd w AL 2 nl (He l)) (hll:nl≤3072) (hnd:((cr++Hg l kf).map crU).Nodup)
  (hcl:∀w',Below w.heap.size w w'→∀u∈l,Al Tryz.prog 54 #[Aa Ab (u.1:Int),.pointer (Af ⟨U,0,Ae⟩),.pointer (Af ⟨F,0,Ae⟩)] w' (Co (Aa Ac (kf u.1)) w')):
  Al Tryz.prog 53 #[.agg #[Aa Ab a,Aa Ab b,Ad pA pn pc],Ad AL nl cl,.func (.func 54) #[] #[.pointer (Af ⟨U,0,Ae⟩),.pointer (Af ⟨F,0,Ae⟩)]] w (vZ a b (Jg (cr++Hg l kf)) w):=by
 have HCLO:=Ah (λ(w':Aj) (hb:Below w.heap.size w w')=>pP pA pn pc (crs cr) w' hpA (hpr.below hb) (pR cr) Ci);have HUR:=Ah (λ(w':Aj) (hb:Below w.heap.size w w')=>hl.below hb);have HCL:=Ah hcl;have HND:=Ah hnd;have HNL:=Ah hnl;have HPN:=Ah hpn;have H:=((Bx.start w).new #[Aa Ab a,Aa Ab b,Ad pA pn pc] 28 rfl).new #[Aa Ab 0,Aa Ab 0,Ad Ae 0 0] 28 (N:=w.heap.size+1) Cn;clear hpn hpA hpr hnl hl hnd hcl;go_enter Tryz.func53,Tryz.ntmps53;go_upto_region 1 with fail;obtain⟨N,hN⟩:=ez w.heap.size;rw[←hN]at H⊢;have HNN:=Ah hN;clear hN;obtain⟨R,hR⟩:=ey (N+1);rw[hR]at H⊢;clear hR;obtain⟨W1,hW1⟩:=ez ((w.alloc (.cells #[Aa Ab a,Aa Ab b,Ad pA pn pc] 28)).alloc (.cells #[Aa Ab 0,Aa Ab 0,Ad Ae 0 0] 28));rw[←hW1]at H⊢;clear hW1;obtain⟨⟨a0,a1,a2⟩,-⟩:=Cv (H.blk 0 _ _ _ rfl);go_cut [7] (λs7 wx=>∃T A c,s7= .pointer (Af ⟨T,0,Ae⟩)∧Hid (CsI w (csL a b pA pn pc N R T) wx pn (crs cr) A c))
 case first=>
  obtain⟨S,hSd⟩:∃S:Aj→Prop,S=λW'=>W'.cell? ⟨N,0,Ae⟩=Af (Aa Ab a)∧W'.cell? ⟨N,1,Ae⟩=Af (Aa Ab b)∧W'.cell? ⟨N,2,Ae⟩=Af (Ad pA pn pc):=⟨_,rfl⟩;have HSO:Hid (∀W',S W'→W'.cell? ⟨N,0,Ae⟩=Af (Aa Ab a)∧W'.cell? ⟨N,1,Ae⟩=Af (Aa Ab b)∧W'.cell? ⟨N,2,Ae⟩=Af (Ad pA pn pc)):=Ah λW' h=>by subst hSd;exact h
  have HSA:Hid (∀W',Below W1.heap.size W1 W'→S W'):=Ah λW' h=>by
   subst hSd;exact⟨Cj h a0,Cj h a1,Cj h a2⟩
  clear hSd a0 a1 a2;refine Ao (S:=S) Cm (HSA.out _ (Ag _ _).drew) (λhS=>?_);have hb:Below W1.heap.size W1 W1.drew:=(Ag _ _).drew;have H:=H.drew;obtain⟨X0,hX0⟩:=ez W1.drew;rw[←hX0]at hb hS H⊢;clear hX0;refine Ck 0 ?_;refine Ck 1 ?_;refine Ck 2 ?_;refine Ck 3 ?_;refine Ap (rs:=[4,6]) Cm Cn (Aq rfl (λK hK=>?_) (Aq rfl (λK hK=>?_) Ar))
  ·go_simp;refine(HCLO.out _ H.below).mono ?_;rintro e X1 ⟨v,rfl,hown,hbm⟩;obtain⟨A',c',rfl,-,-,-⟩:=Ja hown;have hown:=Iv hown H.below.size;have H:=H.call hbm;have hb:=hb.trans (hbm.mono hb.size);refine hK.out _ _ (HSA.out _ hb) (λhS=>?_);clear hK K hbm;refine Ck 5 ?_;obtain⟨T,hT⟩:=ey X1.heap.size;have H:=H.new #[Aa Ab 0,Aa Ab 0,Ad Ae 0 0] 28 hT;have hown:=hown.alloc (.cells #[Aa Ab 0,Aa Ab 0,Ad Ae 0 0] 28);have hTl:W1.heap.size≤T:=hT▸hb.size;have hb:=hb.alloc hb.size (.cells #[Aa Ab 0,Aa Ab 0,Ad Ae 0 0] 28);refine rdy 6 (λK hK=>?_);go_simp;refine hK.out _ _ (HSA.out _ hb) (λhS=>?_);clear hK K hT;obtain⟨XA,hXA⟩:=ez (X1.alloc (.cells #[Aa Ab 0,Aa Ab 0,Ad Ae 0 0] 28));rw[←hXA]at H hb hS hown⊢;clear hXA;have HC:=Ah (pS (a:=a) (b:=b) H hown);obtain⟨⟨y0,y1,y2⟩,z0,z1,z2⟩:=Cv (H.blk 2 _ _ _ rfl);have hb:=((hb.setCell (p:=⟨T,0,Ae⟩) hTl (Aa Ab a)).setCell (p:=⟨T,1,Ae⟩) hTl (Aa Ab b)).setCell (p:=⟨T,2,Ae⟩) hTl (Ad A' pn c');clear H hown;refine rdy 7 (λK hK=>?_);go_simp;refine hK.out _ _ (HSA.out _ hb) (λhS=>?_);clear hK K;refine An Cm ?_ _;go_wp2;go_meet;exact⟨T,A',c',rfl,HC⟩
  ·obtain⟨T,hT⟩:=ey X0.heap.size;have H:=H.new #[Aa Ab 0,Aa Ab 0,Ad Ae 0 0] 28 hT;have hTl:W1.heap.size≤T:=hT▸hb.size;have hb:=hb.alloc hb.size (.cells #[Aa Ab 0,Aa Ab 0,Ad Ae 0 0] 28);go_simp;refine hK.out _ _ (HSA.out _ hb) (λhS=>?_);clear hK K hT;obtain⟨X1,hX1⟩:=ez (X0.alloc (.cells #[Aa Ab 0,Aa Ab 0,Ad Ae 0 0] 28));rw[←hX1]at H hb hS⊢;clear hX1;refine rdy 4 (λK hK=>?_);go_simp;refine(HCLO.out _ H.below).mono ?_;rintro e X2 ⟨v,rfl,hown,hbm⟩;obtain⟨A',c',rfl,-,-,-⟩:=Ja hown;have hown:=Iv hown H.below.size;have H:=H.call hbm;have hb:=hb.trans (hbm.mono hb.size);refine hK.out _ _ (HSA.out _ hb) (λhS=>?_);clear hK K hbm;refine Ck 5 ?_;obtain⟨XA,hXA⟩:=ez X2;rw[←hXA]at H hb hS hown⊢;clear hXA;have HC:=Ah (pS (a:=a) (b:=b) H hown);obtain⟨⟨y0,y1,y2⟩,z0,z1,z2⟩:=Cv (H.blk 2 _ _ _ rfl);have hb:=((hb.setCell (p:=⟨T,0,Ae⟩) hTl (Aa Ab a)).setCell (p:=⟨T,1,Ae⟩) hTl (Aa Ab b)).setCell (p:=⟨T,2,Ae⟩) hTl (Ad A' pn c');clear H hown;refine rdy 7 (λK hK=>?_);go_simp;refine hK.out _ _ (HSA.out _ hb) (λhS=>?_);clear hK K;refine An Cm ?_ _;go_wp2;go_meet;exact⟨T,A',c',rfl,HC⟩
 case rest=>
  obtain⟨T,A0,c0,rfl,HC⟩:=hcut
  have HI0:Hid (∃A c,CsI w (csL a b pA pn pc N R T) wc (pn+0) (crs (cr++Hg (l.take 0) kf)) A c):=Ah ⟨A0,c0,by
   have e:cr++Hg (l.take 0) kf=cr:=by simp[Hg]
   rw[e];exact HC.out⟩
  clear HC HCLO a0 a1 a2 H;go_wp2
  go_loopw [18] (λs18 wr=>∃k:Nat,k≤nl∧s18= Aa Ab k∧Hid (∃A c,CsI w (csL a b pA pn pc N R T) wr (pn+k) (crs (cr++Hg (l.take k) kf)) A c)) (λs18 _=>nl-(intOf s18).toNat)
  case atStart=>exact⟨0,Ci,rfl,HI0⟩
  case round=>
   obtain⟨k,hk,rfl,HZ⟩:=hrel;clear HI0;by_cases hlt:k<nl
   ·have q0:(k:Int)<(nl:Int):=Ci;have hkl:k<l.length:=by have:=HNL.out;omega
    obtain⟨A9,c9,hci⟩:=HZ.out;obtain⟨bu,ou,hAL,-,d0,d1⟩:=qW (HUR.out _ hci.bx.below) k hkl;have hsn:=mP l kf k hkl;have hck:=λ(w':Aj) (hb:Below w.heap.size w w')=>HCL.out w' hb l[k] (Ay hkl);obtain⟨⟨i,e⟩,hu⟩:=ey (l[k]);rw[hu]at d0 d1 hsn hck;dsimp only at d0 d1 hsn hck;obtain⟨k9,hk9⟩:=ey (kf i);rw[hk9]at hsn hck;obtain⟨X,hX⟩:=ey wr.heap.size;have H:=(Bx.start wr).new #[Aa Ab (i:Int),Aa Ac (e:Int)] 126 hX;have HCK:=Ah (λ(w':Aj) (hb:Below wr.heap.size wr w')=>hck w' (hci.bx.below.trans (hb.mono hci.bx.below.size)));have HSN:=Ah hsn;have HCI:=Ah hci;subst hAL;clear hu hk9 hsn hck hci HZ hkl;go_upto_region 5 with fail
    try rw[hX]
    obtain⟨W5,hW5⟩:=ez (wr.alloc (.cells #[Aa Ab (i:Int),Aa Ac (e:Int)] 126));rw[←hW5]at H⊢;clear hW5;clear d0 d1;obtain⟨⟨x0,x1⟩,-⟩:=Cy (H.blk 0 _ _ _ rfl);obtain⟨S,hSd⟩:∃S:Aj→Prop,S=λW'=>W'.cell? ⟨X,0,Ae⟩=Af (Aa Ab (i:Int))∧W'.cell? ⟨X,1,Ae⟩=Af (Aa Ac (e:Int)):=⟨_,rfl⟩;have HSO:Hid (∀W',S W'→W'.cell? ⟨X,0,Ae⟩=Af (Aa Ab (i:Int))∧W'.cell? ⟨X,1,Ae⟩=Af (Aa Ac (e:Int))):=Ah λW' h=>by subst hSd;exact h
    have HSA:Hid (∀W',W'.heap[X]? =W5.drew.heap[X]? →S W'):=Ah λW' h=>by
     have hc:∀j v,W5.cell? ⟨X,j,Ae⟩=Af v→W'.cell? ⟨X,j,Ae⟩=Af v:=λj v hv=>by
      unfold World.cell? at hv⊢;rw[h];exact hv
     subst hSd;exact⟨hc _ _ x0,hc _ _ x1⟩
    have hb7:Below wr.heap.size wr W5.drew:=H.below.drew
    have hcl:W5.drew.cell? ⟨T,2,Ae⟩=Af (Ad A9 (pn+k) c9):=by
     obtain⟨⟨-,-,t2⟩,-⟩:=Cv ((HCI.out.below H.below).bx.blk 2 _ _ _ rfl);exact t2
    have hXd:X<W5.drew.heap.size:=H.lt 0 rfl;clear x0 x1 hSd;refine Ao (S:=S) Cm (HSA.out _ rfl) (λhS=>?_);clear H;obtain⟨Y,hY⟩:=ez W5.drew;rw[←hY]at hS hb7 hcl hXd HSA⊢;clear hY;have HSA2:Hid (∀(Y2 W':Aj),Below Y.heap.size Y Y2→W'.heap[X]? =Y2.heap[X]? →S W'):=Ah λY2 W' hb h=>HSA.out _ (h.trans (hb.block X hXd));have HB7:=Ah hb7;have HXX:Hid (wr.heap.size≤X):=Ah Ci;have HXD:=Ah hXd;clear hb7 HSA hXd hX;refine Ck 0 ?_;refine Ck 2 ?_;refine Ck 3 ?_;refine Ck 4 ?_;refine Ck 5 ?_;refine Ck 6 ?_;refine Ck 7 ?_;refine Ck 8 ?_;refine Ap (rs:=[1,9]) Cm Cn (Aq rfl (λK hK=>?_) (Aq rfl (λK hK=>?_) Ar))
    ·go_simp;refine hK.out _ _ hS (λhS=>?_);clear hK K hcl;refine rdy 9 (λK hK=>?_);go_simp;refine(HCK.out _ HB7.out).mono ?_;rintro ee Y2 ⟨rfl,hb9⟩;refine hK.out _ _ (HSA2.out Y2 _ hb9 rfl) (λhS=>?_);clear hK K;have hb79:=HB7.out.trans (hb9.mono HB7.out.size);obtain⟨A'',c'',w8,hrun,⟨f8,k8⟩,hX8,hC9⟩:=pT HCI.out hb79 Ci (i:Int) (e:Int) k9;have hXY2:X<Y2.heap.size:=by have:=hb9.size;have:=HXD.out;omega
     obtain⟨h81,h82⟩:=hX8 X HXX.out hXY2;have HS8:=Ah (HSA2.out Y2 _ hb9 h81);have HS9:=Ah (HSA2.out Y2 _ hb9 h82);have HSB:=Ah (HSA2.out Y2 _ hb9 (Below.heap_alloc Y2 (.cells #[Aa Ab (i:Int),Aa Ac (e:Int),Aa Ac k9] 124) X hXY2));have HRUN:=Ah hrun;have HFIN:Hid (∃A c,CsI w (csL a b pA pn pc N R T) (w8.setCell ⟨T,2,Ae⟩ (Ad A'' (pn+k+1) c'')) (pn+(k+1)) (crs (cr++Hg (l.take (k+1)) kf)) A c):=Ah ⟨_,_,by rw[HSN.out,←Bj,pQ];exact hC9⟩;clear hb79 hrun hX8 hC9 h81 h82 hXY2;refine Ck 10 ?_;refine rdy 11 (λK hK=>?_);go_simp;refine hK.out _ _ HSB.out (λhS=>?_);clear hK K;refine rdy 12 (λK hK=>?_);refine Dq (by simp[Region.wanted]) (.tmp 23) (.tmp 33) 26 rfl _ _ (by simp[Act.eval]) (by simp[Act.eval]) _ _ HRUN.out ?_;refine hK.out _ _ HS8.out (λhS=>?_);clear hK K;refine Ck 13 ?_;refine rdy 14 (λK hK=>?_);go_simp;refine hK.out _ _ HS9.out (λhS=>?_);clear hK K hS;refine An Cm ?_ _;clear HRUN HS8 HS9 HSB HSO HSA2 f8 k8 HB7 HCK;go_wp2;exact⟨⟨k+1,Ci,by go_num,HFIN⟩,by simp[intOf];omega⟩
    ·go_simp;refine(HCK.out _ HB7.out).mono ?_;rintro ee Y2 ⟨rfl,hb9⟩;refine hK.out _ _ (HSA2.out Y2 _ hb9 rfl) (λhS=>?_);clear hK K;have hb79:=HB7.out.trans (hb9.mono HB7.out.size);obtain⟨A'',c'',w8,hrun,⟨f8,k8⟩,hX8,hC9⟩:=pT HCI.out hb79 Ci (i:Int) (e:Int) k9;have hXY2:X<Y2.heap.size:=by have:=hb9.size;have:=HXD.out;omega
     obtain⟨h81,h82⟩:=hX8 X HXX.out hXY2;have HS8:=Ah (HSA2.out Y2 _ hb9 h81);have HS9:=Ah (HSA2.out Y2 _ hb9 h82);have HSB:=Ah (HSA2.out Y2 _ hb9 (Below.heap_alloc Y2 (.cells #[Aa Ab (i:Int),Aa Ac (e:Int),Aa Ac k9] 124) X hXY2));have HRUN:=Ah hrun;have HFIN:Hid (∃A c,CsI w (csL a b pA pn pc N R T) (w8.setCell ⟨T,2,Ae⟩ (Ad A'' (pn+k+1) c'')) (pn+(k+1)) (crs (cr++Hg (l.take (k+1)) kf)) A c):=Ah ⟨_,_,by rw[HSN.out,←Bj,pQ];exact hC9⟩;clear hb79 hrun hX8 hC9 h81 h82 hXY2;refine Ck 10 ?_;have hcl:=Cj hb9 hcl;refine Ap (rs:=[1,11]) Cm Cn (Aq rfl (λK hK=>?_) (Aq rfl (λK hK=>?_) Ar))
     ·go_simp;refine hK.out _ _ hS (λhS=>?_);clear hK K hcl;refine rdy 11 (λK hK=>?_);go_simp;refine hK.out _ _ HSB.out (λhS=>?_);clear hK K;refine rdy 12 (λK hK=>?_);refine Dq (by simp[Region.wanted]) (.tmp 23) (.tmp 33) 26 rfl _ _ (by simp[Act.eval]) (by simp[Act.eval]) _ _ HRUN.out ?_;refine hK.out _ _ HS8.out (λhS=>?_);clear hK K;refine Ck 13 ?_;refine rdy 14 (λK hK=>?_);go_simp;refine hK.out _ _ HS9.out (λhS=>?_);clear hK K hS;refine An Cm ?_ _;clear HRUN HS8 HS9 HSB HSO HSA2 f8 k8 HB7 HCK;go_wp2;exact⟨⟨k+1,Ci,by go_num,HFIN⟩,by simp[intOf];omega⟩
     ·have hcl:=Cj ((Ag Y2.heap.size Y2).alloc (Am _) (.cells #[Aa Ab (i:Int),Aa Ac (e:Int),Aa Ac k9] 124)) hcl;go_simp;refine hK.out _ _ HSB.out (λhS=>?_);clear hK K;refine rdy 1 (λK hK=>?_);go_simp;refine hK.out _ _ hS (λhS=>?_);clear hK K hcl;refine rdy 12 (λK hK=>?_);refine Dq (by simp[Region.wanted]) (.tmp 23) (.tmp 33) 26 rfl _ _ (by simp[Act.eval]) (by simp[Act.eval]) _ _ HRUN.out ?_;refine hK.out _ _ HS8.out (λhS=>?_);clear hK K;refine Ck 13 ?_;refine rdy 14 (λK hK=>?_);go_simp;refine hK.out _ _ HS9.out (λhS=>?_);clear hK K hS;refine An Cm ?_ _;clear HRUN HS8 HS9 HSB HSO HSA2 f8 k8 HB7 HCK;go_wp2;exact⟨⟨k+1,Ci,by go_num,HFIN⟩,by simp[intOf];omega⟩
   ·obtain⟨W1,rfl⟩:=ez wr;obtain rfl:k=nl:=Ci;have q0:¬(k:Int)<(k:Int):=Ci;obtain⟨A9,c9,hci⟩:=HZ.out;have ht:l.take k=l:=Bg (by have:=HNL.out;omega);rw[ht]at hci;obtain⟨m,hm⟩:=ey (pn+k);rw[hm]at hci;obtain⟨L,hL⟩:=ey (cr++Hg l kf);rw[hL]at hci HND;have HLL:=Ah hL;have hown:=hci.own;rw[Az4]at hown;have HSRT:=Ah (oI (L.map crT) W1 hown Ci);have hmb:m≤1000000:=Ci
    have HFS:Hid (∀w4,(∃l':List CrE,l'.Perm (L.map crT)∧l'.Pairwise (λp q=>ltOf cX q p=false)∧w4.ownsRow w.heap.size 124 3 (Ad A9 m c9) m (l'.flatMap crI)∧W1.grownBy w4 (Value.ownBlock (Ad A9 m c9)))→CsI w (csL a b pA pn pc N R T) w4 m (crs (Jg L)) A9 c9):=Ah (by
     rintro w4 ⟨l',hp,hs,ho,hg⟩;have e:=Ac5 hp hs HND.out;rw[←Az3,e]at ho;exact⟨hci.bx.grown hg (Aq2 hci) (λg hgv=>(hci.own.lt g hgv).1),ho⟩)
    have hlen:(Jg L).length=m:=by
     have h1:=(Ii L).length_eq;have h2:=hci.own.1;rw[Ah8]at h2;omega
    have HLEN:=Ah hlen;have hci':=Ah hci;obtain⟨⟨-,-,t2⟩,-⟩:=Cv (hci.bx.blk 2 _ _ _ rfl);clear hci hown hlen ht hL hm HZ HUR HCL;go_wp2_with fail;refine HSRT.out.mono ?_;rintro ee w4 ⟨rfl,hsr⟩;have HC4:=Ah (HFS.out w4 hsr);clear t2 hsr HFS HSRT;obtain⟨⟨-,-,t2⟩,-⟩:=Cv (HC4.out.bx.blk 2 _ _ _ rfl);obtain⟨A',c',hv,hA',-,-⟩:=Ja HC4.out.own;obtain⟨rfl,rfl⟩:A9=A'∧c9=c':=by simpa using hv
    have HCN:=Ah (pP A9 m c9 (crs (Jg L)) w4 hA' (Rd.of_own HC4.out.own) (pR _) hmb);clear hv hA';go_wp2_with fail;refine HCN.out.mono ?_;rintro ee w5 ⟨v5,rfl,hown5,hb5⟩;obtain⟨A5,c5,rfl,hA5,hle5,hcm5⟩:=Ja hown5;have HO5:=Ah hown5;have HA5:=Ah hA5;clear hown5 hA5 t2;go_wp2_with fail;refine(Au1 A5 m c5 w5 hle5 hcm5).mono ?_;rintro ee w6 ⟨rfl,hb6⟩;have H6:=(HC4.out.bx.call hb5).call hb6;have ho6:=Dj HO5.out (Am _) hb6
    have hneT:∀g,Value.ownBlock (Ad A5 m c5)=Af g→g≠T:=λg hg e=>by
     subst e;exact Rp ho6 (H6.blk 2 _ _ _ rfl) Ct hg
    have hneR:∀g,Value.ownBlock (Ad A5 m c5)=Af g→g≠R:=λg hg e=>by
     subst e;exact Rp ho6 (H6.blk 1 _ _ _ rfl) Ct hg
    obtain⟨⟨t0,t1,t2⟩,f0,f1,f2⟩:=Cv (H6.blk 2 _ _ _ rfl);obtain⟨⟨r0,r1,r2⟩,g0,g1,g2⟩:=Cv (H6.blk 1 _ _ _ rfl);have hTR:=H6.ne 1 2 Ct rfl rfl;have hRT:=hTR.symm;have H7:=(((H6.set 2 2 rfl (Ad A5 m m)).set 1 0 rfl (Aa Ab a)).set 1 1 rfl (Aa Ab b)).set 1 2 rfl (Ad A5 m m)
    have ho7:((((w6.setCell ⟨T,2,Ae⟩ (Ad A5 m m)).setCell ⟨R,0,Ae⟩ (Aa Ab a)).setCell ⟨R,1,Ae⟩ (Aa Ab b)).setCell ⟨R,2,Ae⟩ (Ad A5 m m)).ownsRow w4.heap.size 124 3 (Ad A5 m c5) m (crs (Jg L)):=Dr ho6 λg hg=>by
     rw[Below.heap_setCell _ ⟨R,2,Ae⟩ _ g (hneR g hg),Below.heap_setCell _ ⟨R,1,Ae⟩ _ g (hneR g hg),Below.heap_setCell _ ⟨R,0,Ae⟩ _ g (hneR g hg),Below.heap_setCell _ ⟨T,2,Ae⟩ _ g (hneT g hg)]
    have HF:Hid (vZ a b (Jg (cr++Hg l kf)) w (.returned (.agg #[Aa Ab a,Aa Ab b,Ad A5 m m])) ((((w6.setCell ⟨T,2,Ae⟩ (Ad A5 m m)).setCell ⟨R,0,Ae⟩ (Aa Ab a)).setCell ⟨R,1,Ae⟩ (Aa Ab b)).setCell ⟨R,2,Ae⟩ (Ad A5 m m))):=Ah (by
     rw[HLL.out];exact⟨A5,c5,by rw[HLEN.out],by rw[HLEN.out];exact HA5.out.clip,by rw[HLEN.out];exact Iv ho7 HC4.out.bx.below.size,H7.below⟩)
    have H7':=Ah H7;clear ho6 ho7 H6 H7 hneT hneR hb5 hb6;go_wp2_with fail;exact Ai (Ht rfl rfl (H7'.out.range 1 rfl) Tryz.underlying28 rfl Cm) rfl HF.out
end Go.Proofs.YthpcfeifmdbhnaaGreatDoor
